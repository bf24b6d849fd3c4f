/- Texts of this seat's, what the claim needs of them. -/
import Derived.Test.YtlakomilichhnaaGreatDoorZOz
import Derived.Test.YtlakomilichhnaaGreatDoorYMOx
import Derived.Test.YtlakomilichhnaaGreatDoorZLawSrA
import Derived.Test.YtlakomilichhnaaGreatDoorYMPe
import Derived.Test.YtlakomilichhnaaGreatDoorYMSqT
namespace Go.Proofs.YtlakomilichhnaaGreatDoor
set_option maxRecDepth 100000
open Go.RowKit
namespace Qr
def kR (k:UInt8):Int:=if k=113 then 2 else if k=114 then 1 else if k=0 then 0 else 3
def tx (t:Tok):By:=if t.k=113∨t.k=114 then t.t else if t.k=0 then [] else [t.k]
def Lg (t:Tok):Prop:=t.k=113∨t.k=114∨t.k=40∨t.k=41∨t.k=58∨t.k=42∨(t.k=0∧t.t=[]∧t.g=false)
structure RT (w:World) (toks:List Tok) (b o c:Nat):Prop where
 cap:toks.length+1≤c
 max:c≤maxLen
 len:toks.length≤2000
 lt:b<w.heap.size
 lg:∀ t∈toks,Lg t
 ok:TokOk toks
 at_:∀ r,r <:+ toks→w.cell? ⟨b,o+(toks.length - r.length)*3,none⟩=some (.int .i64 (kR (lk r).k))∧w.cell? ⟨b,o+(toks.length - r.length)*3+1,none⟩=some (.string ⟨(tx (lk r)).toArray⟩)∧w.cell? ⟨b,o+(toks.length - r.length)*3+2,none⟩=some (.bool (lk r).g)
end Qr
end Go.Proofs.YtlakomilichhnaaGreatDoor
namespace Go.Proofs.YtlakomilichhnaaGreatDoor
set_option maxHeartbeats 3200000
set_option maxRecDepth 100000
open Go.RowKit
open AllReadyH renaming cons→BU,nil→C6
open Go renaming Calls→Ac,cell_later→A0,wpAnyH_done→FZ,wpAnyH_ready→Ck,wp_region_held_drew→Dx
open Lib renaming hid→J
open Option renaming none→A4,some→A2
open Proofs.Tryz renaming func12→MU,func8→NM,ntmps12→LU,prog→A3
open RowKit renaming Below→A6
open RowKit.Below renaming refl→Ab
open Tx renaming retb→Ay,step→A8
namespace Qr
end Qr
namespace Rc
end Rc
namespace Sr
open Rc hiding bys
open Qr
def RiQ (q:Qy):Prop:=Sm q∧rightE q=0
theorem RiQ.rq {q:Qy} (h:RiQ q):Rq q:=rq_right h.2
end Sr
theorem sr_right_c (B:Nat) (q:Qr.Qy) (cs:List Value) (w:World) (h:Qr.QC B w q cs) :
  Ac A3 12 #[.agg cs.toArray] w fun e w'=>∃ b:Bool,e=.returned (.bool b)∧(b=true↔Sr.RiQ q)∧A6 w.heap.size w w':=by
 obtain⟨sa,sc,ka,kc,rfl,_,_,_⟩:=h.kids
 obtain⟨W,hW⟩:∃ W,w.alloc (.cells #[.int .i64 q.op,.int .i64 q.fld,.slice sa q.ws.length sc,.int .i64 q.a,.int .i64 q.b,.slice ka q.ks.length kc] 29)=W:=⟨_,rfl⟩
 have hB:A6 w.heap.size w W:=by rw[← hW];exact Tx.newb _ _
 have d0:W.cell? ⟨w.heap.size,0,A4⟩=A2 (.int .i64 q.op):=by rw[← hW];simp
 have d1:W.cell? ⟨w.heap.size,1,A4⟩=A2 (.int .i64 q.fld):=by rw[← hW];simp
 have d2:W.cell? ⟨w.heap.size,2,A4⟩=A2 (.slice sa q.ws.length sc):=by rw[← hW];simp
 have d3:W.cell? ⟨w.heap.size,3,A4⟩=A2 (.int .i64 q.a):=by rw[← hW];simp
 have d4:W.cell? ⟨w.heap.size,4,A4⟩=A2 (.int .i64 q.b):=by rw[← hW];simp
 have d5:W.cell? ⟨w.heap.size,5,A4⟩=A2 (.slice ka q.ks.length kc):=by rw[← hW];simp
 have SC:=r21_Small_c B q _ W (h.later hB)
 cases hs:Qr.smB q with
 | false =>
  rw[hs]at SC
  have HSC:=J SC
  have HF:Hid (¬ Sr.RiQ q):=J (fun h9=>by rw[Qr.smB_t.2 h9.1]at hs;cases hs)
  clear SC hs h
  go_enter MU,LU
  go_wp2_with (go_at_call 31;((with_reducible refine HSC.out.mono ?_);rintro e w1 ⟨rfl,hb1⟩))
  go_ret
  exact⟨false,rfl,⟨fun h9=>(by cases h9),fun h9=>absurd h9 HF.out⟩,A8 hB hb1⟩
 | true =>
  rw[hs]at SC
  have HSC:=J SC
  have hsm:=Qr.smB_t.1 hs
  have RC:∀ W',A6 W.heap.size W W'→_:=fun W' h9=>r21_Right_c B q _ W' ((h.later hB).later h9) hsm.2.wz (by have:=hsm.1;omega)
  obtain⟨E,hE⟩:∃ E,Qr.rightE q=E:=⟨_,rfl⟩
  rw[hE]at RC
  have HRC:=J RC
  have HI:Hid ((E == 0)=true↔Sr.RiQ q):=J ⟨fun h9=>⟨hsm,by rw[hE];exact beq_iff_eq.1 h9⟩,fun h9=>by rw[beq_iff_eq,← hE];exact h9.2⟩
  obtain⟨b,hb⟩:∃ b,(E == 0)=b:=⟨_,rfl⟩
  have HI2:Hid (b=true↔Sr.RiQ q):=J (by rw[← hb];exact HI.out)
  clear SC hs h RC hsm hE HI
  go_enter MU,LU
  go_wp2_with (first
   |(go_at_call 31;((with_reducible refine HSC.out.mono ?_);rintro e w1 ⟨rfl,hb1⟩;have e0:=A0 hb1 d0;have e1:=A0 hb1 d1;have e2:=A0 hb1 d2;have e3:=A0 hb1 d3;have e4:=A0 hb1 d4;have e5:=A0 hb1 d5))
   |(go_at_call 32;((with_reducible refine (HRC.out _ hb1).mono ?_);rintro e w2 ⟨rfl,hb2⟩)))
  go_ret
  exact⟨b,rfl,HI2.out,A8 hB (A8 hb1 hb2)⟩
theorem match_law (r:Rc.Rd) (fa:Option Addr) (fc B:Nat) (q:Qr.Qy) (cs:List Value) (w:World) (hG:G w) (h:Rc.FldA w fa fc r.fields) (hq:Qr.QC B w q cs) :
  Ac A3 8 #[.agg #[.int .i64 r.id,.int .i64 r.ver,.int .i64 r.kind,.string r.lang,.slice fa r.fields.length fc],.agg cs.toArray] w fun e w'=>e=.returned (.bool true)∧A6 w.heap.size w w':=by
 obtain⟨sa,sc,ka,kc,rfl,_,_,_⟩:=hq.kids
 obtain⟨W,hW⟩:∃ W,(w.alloc (.cells #[.int .i64 r.id,.int .i64 r.ver,.int .i64 r.kind,.string r.lang,.slice fa r.fields.length fc] 51)).alloc (.cells #[.int .i64 q.op,.int .i64 q.fld,.slice sa q.ws.length sc,.int .i64 q.a,.int .i64 q.b,.slice ka q.ks.length kc] 29)=W:=⟨_,rfl⟩
 have hB:A6 w.heap.size w W:=by rw[← hW];exact (Tx.newb _ _).alloc (by simp) _
 have r0:W.cell? ⟨w.heap.size,0,A4⟩=A2 (.int .i64 r.id):=by rw[← hW];simp
 have r1:W.cell? ⟨w.heap.size,1,A4⟩=A2 (.int .i64 r.ver):=by rw[← hW];simp
 have r2:W.cell? ⟨w.heap.size,2,A4⟩=A2 (.int .i64 r.kind):=by rw[← hW];simp
 have r3:W.cell? ⟨w.heap.size,3,A4⟩=A2 (.string r.lang):=by rw[← hW];simp
 have r4:W.cell? ⟨w.heap.size,4,A4⟩=A2 (.slice fa r.fields.length fc):=by rw[← hW];simp
 have d0:W.cell? ⟨w.heap.size+1,0,A4⟩=A2 (.int .i64 q.op):=by rw[← hW];simp
 have d1:W.cell? ⟨w.heap.size+1,1,A4⟩=A2 (.int .i64 q.fld):=by rw[← hW];simp
 have d2:W.cell? ⟨w.heap.size+1,2,A4⟩=A2 (.slice sa q.ws.length sc):=by rw[← hW];simp
 have d3:W.cell? ⟨w.heap.size+1,3,A4⟩=A2 (.int .i64 q.a):=by rw[← hW];simp
 have d4:W.cell? ⟨w.heap.size+1,4,A4⟩=A2 (.int .i64 q.b):=by rw[← hW];simp
 have d5:W.cell? ⟨w.heap.size+1,5,A4⟩=A2 (.slice ka q.ks.length kc):=by rw[← hW];simp
 have HA:=J (sr_alive_c W (hG.below hB))
 have HG:=J (hG.below hB)
 have HF:=J (h.below hB)
 have HQ:=J (hq.later hB)
 have HB:=J hB
 have HSM:Hid (∀ W',A6 W.heap.size W W'→Ac A3 23 #[.agg #[.int .i64 r.id,.int .i64 r.ver,.int .i64 r.kind,.string r.lang,.slice fa r.fields.length fc]] W' fun e w'=>e=.returned (.bool (Rc.smallR r.fields))∧A6 W'.heap.size W' w'):=J (fun W' h9=>Small_c r.fields fa fc r.id r.ver r.kind r.lang W' (HF.out.below h9))
 have HRT:Hid (∀ W',A6 W.heap.size W W'→Ac A3 12 #[.agg #[.int .i64 q.op,.int .i64 q.fld,.slice sa q.ws.length sc,.int .i64 q.a,.int .i64 q.b,.slice ka q.ks.length kc]] W' fun e w'=>∃ b:Bool,e=.returned (.bool b)∧(b=true↔Sr.RiQ q)∧A6 W'.heap.size W' w'):=J (fun W' h9=>sr_right_c B q _ W' (HQ.out.later h9))
 clear h hq hG hB
 cases hs:Rc.smallR r.fields with
 | false =>
  rw[hs]at HSM
  have HSC:=HSM
  clear HSM HRT hs
  go_enter NM,Tryz.ntmps8
  go_wp2_with (go_at_call 10;((with_reducible refine HA.out.mono ?_);rintro e w1 ⟨rfl,hb1⟩;clear hW;have HB1:=J (A8 HB.out hb1);have HW1:=J hb1;have zr0:=A0 hb1 r0;have zr1:=A0 hb1 r1;have zr2:=A0 hb1 r2;have zr3:=A0 hb1 r3;have zr4:=A0 hb1 r4;have zd0:=A0 hb1 d0;have zd1:=A0 hb1 d1;have zd2:=A0 hb1 d2;have zd3:=A0 hb1 d3;have zd4:=A0 hb1 d4;have zd5:=A0 hb1 d5;clear hb1 r0 r1 r2 r3 r4 d0 d1 d2 d3 d4 d5))
  refine Dx (S:=(fun w'=>A6 w1.heap.size w1 w'∧w'.cell? ⟨w.heap.size,0,A4⟩=A2 (.int .i64 r.id)∧w'.cell? ⟨w.heap.size,1,A4⟩=A2 (.int .i64 r.ver)∧w'.cell? ⟨w.heap.size,2,A4⟩=A2 (.int .i64 r.kind)∧w'.cell? ⟨w.heap.size,3,A4⟩=A2 (.string r.lang)∧w'.cell? ⟨w.heap.size,4,A4⟩=A2 (.slice fa r.fields.length fc)∧w'.cell? ⟨w.heap.size+1,0,A4⟩=A2 (.int .i64 q.op)∧w'.cell? ⟨w.heap.size+1,1,A4⟩=A2 (.int .i64 q.fld)∧w'.cell? ⟨w.heap.size+1,2,A4⟩=A2 (.slice sa q.ws.length sc)∧w'.cell? ⟨w.heap.size+1,3,A4⟩=A2 (.int .i64 q.a)∧w'.cell? ⟨w.heap.size+1,4,A4⟩=A2 (.int .i64 q.b)∧w'.cell? ⟨w.heap.size+1,5,A4⟩=A2 (.slice ka q.ks.length kc))) (by kernel_rfl) ?_ (fun hHeld=>?_)
  ·(first | exact⟨(Ab _ _).drew,zr0,zr1,zr2,zr3,zr4,zd0,zd1,zd2,zd3,zd4,zd5⟩ | (go_split_ands;exact⟨A8 ‹_› hbx,by repeat' first | exact A0 hbx ‹_› | constructor⟩))
  refine tkY 0 (oi:=⟨A2 7,_,_,_,_,_⟩) (.agg #[.int .i64 r.id,.int .i64 r.ver,.int .i64 r.kind,.string r.lang,.slice fa r.fields.length fc]) ?_
  refine tkP ?_
  refine Ck (rs:=[1]) (by kernel_rfl) (by simp) ?_
  refine BU (o:=⟨A2 8,_,_,_,_,_⟩) rfl (fun K hK=>?_) C6
  go_simp
  go_split_ands
  go_at_call 23
  refine (HSC.out _ (A8 HW1.out ‹_›)).mono ?_
  rintro e wx ⟨rfl,hbx⟩
  go_wp2_with fail
  refine hK.out _ _ ?_ (fun hHeld=>?_)
  ·(first | exact⟨(Ab _ _).drew,zr0,zr1,zr2,zr3,zr4,zd0,zd1,zd2,zd3,zd4,zd5⟩ | (go_split_ands;exact⟨A8 ‹_› hbx,by repeat' first | exact A0 hbx ‹_› | constructor⟩))
  clear hK K
  try refine tkP ?_
  refine tkY 2 (oi:=⟨A2 9,_,_,_,_,_⟩) (.bool true) ?_
  refine tkP ?_
  refine tkY 3 (oi:=⟨A2 10,_,_,_,_,_⟩) (.bool true) ?_
  refine tkP ?_
  refine tkN 4 (oi:=⟨A2 11,_,_,_,_,_⟩) ?_
  refine tkP ?_
  refine tkN 5 (oi:=⟨A2 12,_,_,_,_,_⟩) ?_
  refine tkP ?_
  refine tkN 6 (oi:=⟨A2 13,_,_,_,_,_⟩) ?_
  refine tkP ?_
  refine tkY 7 (oi:=⟨A2 14,_,_,_,_,_⟩) (.bool true) ?_
  refine tkP ?_
  refine tkY 8 (oi:=⟨A2 15,_,_,_,_,_⟩) (.bool true) ?_
  refine tkP ?_
  refine tkN 9 (oi:=⟨A2 16,_,_,_,_,_⟩) ?_
  refine tkP ?_
  refine tkN 10 (oi:=⟨A2 17,_,_,_,_,_⟩) ?_
  refine tkP ?_
  refine tkN 11 (oi:=⟨A2 18,_,_,_,_,_⟩) ?_
  refine tkP ?_
  refine tkY 12 (oi:=⟨A2 19,_,_,_,_,_⟩) (.bool true) ?_
  refine tkP ?_
  refine tkY 13 (oi:=⟨A2 20,_,_,_,_,_⟩) (.bool true) ?_
  refine tkP ?_
  refine tkN 14 (oi:=⟨A2 21,_,_,_,_,_⟩) ?_
  refine tkP ?_
  refine tkN 15 (oi:=⟨A2 22,_,_,_,_,_⟩) ?_
  refine tkP ?_
  refine tkN 16 (oi:=⟨A2 23,_,_,_,_,_⟩) ?_
  refine tkP ?_
  refine tkN 17 (oi:=⟨A2 24,_,_,_,_,_⟩) ?_
  refine tkP ?_
  refine tkN 18 (oi:=⟨A2 25,_,_,_,_,_⟩) ?_
  refine tkP ?_
  refine tkN 19 (oi:=⟨A2 26,_,_,_,_,_⟩) ?_
  refine tkP ?_
  refine tkN 20 (oi:=⟨A2 27,_,_,_,_,_⟩) ?_
  refine tkP ?_
  refine tkY 21 (oi:=⟨A2 28,_,_,_,_,_⟩) (.bool true) ?_
  refine tkP ?_
  refine tkY 22 (oi:=⟨A2 4,_,_,_,_,_⟩) (.bool true) ?_
  refine tkP ?_
  refine FZ (by kernel_rfl) ?_ _
  go_split_ands
  go_wp2
  go_ret
  exact⟨Ay (by simp),A8 HB1.out ‹_›⟩
 | true =>
  rw[hs]at HSM
  have HSC:=HSM
  have HS:=J hs
  have EC:∀ W',A6 W.heap.size W W'→_:=fun W' h9=>r08_Right_c r.fields fa fc r.id r.ver r.kind r.lang W' (HF.out.below h9) (fun f hf y hy=>by
   unfold Rc.smallR at hs
   rw[decide_eq_true_eq]at hs
   have h2:=hs.2 f hf
   unfold Rc.smallF at h2
   rw[decide_eq_true_eq]at h2
   exact Nat.le_trans (h2.2 y hy) (by decide))
  obtain⟨E,hE⟩:∃ E,Rc.recE r=E:=⟨_,rfl⟩
  have EC2:∀ W',A6 W.heap.size W W'→Ac A3 24 #[.agg #[.int .i64 r.id,.int .i64 r.ver,.int .i64 r.kind,.string r.lang,.slice fa r.fields.length fc]] W' fun e w'=>e=.returned (.int .i64 E)∧A6 W'.heap.size W' w':=fun W' h9=>by
   have:=EC W' h9
   rw[show Rc.recE ⟨r.id,r.ver,r.kind,r.lang,r.fields⟩=E from hE]at this
   exact this
  have HEC:=J EC2
  clear EC EC2 hs HSM
  by_cases hE0:E=0
  ·have hne:(E != 0)=false:=by rw[hE0];rfl
   have HE0:Hid (Rc.recE r=0):=J (by rw[hE,hE0])
   clear hE hE0
   by_cases hR:Sr.RiQ q
   ·have RT:∀ W',A6 W.heap.size W W'→Ac A3 12 #[.agg #[.int .i64 q.op,.int .i64 q.fld,.slice sa q.ws.length sc,.int .i64 q.a,.int .i64 q.b,.slice ka q.ks.length kc]] W' fun e w'=>e=.returned (.bool true)∧A6 W'.heap.size W' w':=fun W' h9=>(HRT.out W' h9).mono fun e w' ⟨b,he,hb,hq⟩=>⟨by rw[he,hb.2 hR],hq⟩
    have HRC:=J RT
    have HRQ:=J hR
    clear RT HRT
    have hRg:=Sr.rg_of HS.out HE0.out
    have PC:∀ W',A6 W.heap.size W W'→_:=fun W' h9=>search_Match_c r fa fc B hRg q hR.rq _ W' (HQ.out.later h9) (HF.out.below h9) (HG.out.below h9)
    have FC:∀ W',A6 W.heap.size W W'→_:=fun W' h9=>r22_Match_c r fa fc B hRg q hR.rq _ W' (HQ.out.later h9) (HF.out.below h9)
    obtain⟨m,hm⟩:∃ m,Sr.matchB r.fields q=m:=⟨_,rfl⟩
    rw[hm]at PC FC
    have HPC:=J PC
    have HFC:=J FC
    clear PC FC hm hR hRg
    go_enter NM,Tryz.ntmps8
    go_wp2_with (go_at_call 10;((with_reducible refine HA.out.mono ?_);rintro e w1 ⟨rfl,hb1⟩;clear hW;have HB1:=J (A8 HB.out hb1);have HW1:=J hb1;have zr0:=A0 hb1 r0;have zr1:=A0 hb1 r1;have zr2:=A0 hb1 r2;have zr3:=A0 hb1 r3;have zr4:=A0 hb1 r4;have zd0:=A0 hb1 d0;have zd1:=A0 hb1 d1;have zd2:=A0 hb1 d2;have zd3:=A0 hb1 d3;have zd4:=A0 hb1 d4;have zd5:=A0 hb1 d5;clear hb1 r0 r1 r2 r3 r4 d0 d1 d2 d3 d4 d5))
    refine Dx (S:=(fun w'=>A6 w1.heap.size w1 w'∧w'.cell? ⟨w.heap.size,0,A4⟩=A2 (.int .i64 r.id)∧w'.cell? ⟨w.heap.size,1,A4⟩=A2 (.int .i64 r.ver)∧w'.cell? ⟨w.heap.size,2,A4⟩=A2 (.int .i64 r.kind)∧w'.cell? ⟨w.heap.size,3,A4⟩=A2 (.string r.lang)∧w'.cell? ⟨w.heap.size,4,A4⟩=A2 (.slice fa r.fields.length fc)∧w'.cell? ⟨w.heap.size+1,0,A4⟩=A2 (.int .i64 q.op)∧w'.cell? ⟨w.heap.size+1,1,A4⟩=A2 (.int .i64 q.fld)∧w'.cell? ⟨w.heap.size+1,2,A4⟩=A2 (.slice sa q.ws.length sc)∧w'.cell? ⟨w.heap.size+1,3,A4⟩=A2 (.int .i64 q.a)∧w'.cell? ⟨w.heap.size+1,4,A4⟩=A2 (.int .i64 q.b)∧w'.cell? ⟨w.heap.size+1,5,A4⟩=A2 (.slice ka q.ks.length kc))) (by kernel_rfl) ?_ (fun hHeld=>?_)
    ·(first | exact⟨(Ab _ _).drew,zr0,zr1,zr2,zr3,zr4,zd0,zd1,zd2,zd3,zd4,zd5⟩ | (go_split_ands;exact⟨A8 ‹_› hbx,by repeat' first | exact A0 hbx ‹_› | constructor⟩))
    refine tkY 0 (oi:=⟨A2 7,_,_,_,_,_⟩) (.agg #[.int .i64 r.id,.int .i64 r.ver,.int .i64 r.kind,.string r.lang,.slice fa r.fields.length fc]) ?_
    refine tkP ?_
    refine Ck (rs:=[1]) (by kernel_rfl) (by simp) ?_
    refine BU (o:=⟨A2 8,_,_,_,_,_⟩) rfl (fun K hK=>?_) C6
    go_simp
    go_split_ands
    go_at_call 23
    refine (HSC.out _ (A8 HW1.out ‹_›)).mono ?_
    rintro e wx ⟨rfl,hbx⟩
    go_wp2_with fail
    refine hK.out _ _ ?_ (fun hHeld=>?_)
    ·(first | exact⟨(Ab _ _).drew,zr0,zr1,zr2,zr3,zr4,zd0,zd1,zd2,zd3,zd4,zd5⟩ | (go_split_ands;exact⟨A8 ‹_› hbx,by repeat' first | exact A0 hbx ‹_› | constructor⟩))
    clear hK K
    try refine tkP ?_
    refine tkY 2 (oi:=⟨A2 9,_,_,_,_,_⟩) (.bool false) ?_
    refine tkP ?_
    refine tkY 3 (oi:=⟨A2 10,_,_,_,_,_⟩) (.bool false) ?_
    refine tkP ?_
    refine tkY 4 (oi:=⟨A2 11,_,_,_,_,_⟩) (.agg #[.int .i64 r.id,.int .i64 r.ver,.int .i64 r.kind,.string r.lang,.slice fa r.fields.length fc]) ?_
    refine tkP ?_
    refine Ck (rs:=[5]) (by kernel_rfl) (by simp) ?_
    refine BU (o:=⟨A2 12,_,_,_,_,_⟩) rfl (fun K hK=>?_) C6
    go_simp
    go_split_ands
    go_at_call 24
    refine (HEC.out _ (A8 HW1.out ‹_›)).mono ?_
    rintro e wx ⟨rfl,hbx⟩
    go_wp2_with fail
    refine hK.out _ _ ?_ (fun hHeld=>?_)
    ·(first | exact⟨(Ab _ _).drew,zr0,zr1,zr2,zr3,zr4,zd0,zd1,zd2,zd3,zd4,zd5⟩ | (go_split_ands;exact⟨A8 ‹_› hbx,by repeat' first | exact A0 hbx ‹_› | constructor⟩))
    clear hK K
    try refine tkP ?_
    refine tkY 6 (oi:=⟨A2 13,_,_,_,_,_⟩) (.bool false) ?_
    refine tkP ?_
    refine tkY 7 (oi:=⟨A2 14,_,_,_,_,_⟩) (.bool false) ?_
    refine tkP ?_
    refine tkY 8 (oi:=⟨A2 15,_,_,_,_,_⟩) (.bool false) ?_
    refine tkP ?_
    refine tkY 9 (oi:=⟨A2 16,_,_,_,_,_⟩) (.agg #[.int .i64 q.op,.int .i64 q.fld,.slice sa q.ws.length sc,.int .i64 q.a,.int .i64 q.b,.slice ka q.ks.length kc]) ?_
    refine tkP ?_
    refine Ck (rs:=[10]) (by kernel_rfl) (by simp) ?_
    refine BU (o:=⟨A2 17,_,_,_,_,_⟩) rfl (fun K hK=>?_) C6
    go_simp
    go_split_ands
    go_at_call 12
    refine (HRC.out _ (A8 HW1.out ‹_›)).mono ?_
    rintro e wx ⟨rfl,hbx⟩
    go_wp2_with fail
    refine hK.out _ _ ?_ (fun hHeld=>?_)
    ·(first | exact⟨(Ab _ _).drew,zr0,zr1,zr2,zr3,zr4,zd0,zd1,zd2,zd3,zd4,zd5⟩ | (go_split_ands;exact⟨A8 ‹_› hbx,by repeat' first | exact A0 hbx ‹_› | constructor⟩))
    clear hK K
    try refine tkP ?_
    refine tkY 11 (oi:=⟨A2 18,_,_,_,_,_⟩) (.bool false) ?_
    refine tkP ?_
    refine tkY 12 (oi:=⟨A2 19,_,_,_,_,_⟩) (.bool false) ?_
    refine tkP ?_
    refine tkY 13 (oi:=⟨A2 20,_,_,_,_,_⟩) (.bool false) ?_
    refine tkP ?_
    refine tkY 14 (oi:=⟨A2 21,_,_,_,_,_⟩) (.agg #[.int .i64 r.id,.int .i64 r.ver,.int .i64 r.kind,.string r.lang,.slice fa r.fields.length fc]) ?_
    refine tkP ?_
    refine tkY 15 (oi:=⟨A2 22,_,_,_,_,_⟩) (.agg #[.int .i64 q.op,.int .i64 q.fld,.slice sa q.ws.length sc,.int .i64 q.a,.int .i64 q.b,.slice ka q.ks.length kc]) ?_
    refine tkP ?_
    refine tkY 17 (oi:=⟨A2 24,_,_,_,_,_⟩) (.agg #[.int .i64 r.id,.int .i64 r.ver,.int .i64 r.kind,.string r.lang,.slice fa r.fields.length fc]) ?_
    refine tkP ?_
    refine tkY 18 (oi:=⟨A2 25,_,_,_,_,_⟩) (.agg #[.int .i64 q.op,.int .i64 q.fld,.slice sa q.ws.length sc,.int .i64 q.a,.int .i64 q.b,.slice ka q.ks.length kc]) ?_
    refine tkP ?_
    refine Ck (rs:=[16]) (by kernel_rfl) (by simp) ?_
    refine BU (o:=⟨A2 23,_,_,_,_,_⟩) rfl (fun K hK=>?_) C6
    go_simp
    go_split_ands
    go_at_call 25
    refine (HPC.out _ (A8 HW1.out ‹_›)).mono ?_
    rintro e wx ⟨rfl,hbx⟩
    go_wp2_with fail
    refine hK.out _ _ ?_ (fun hHeld=>?_)
    ·(first | exact⟨(Ab _ _).drew,zr0,zr1,zr2,zr3,zr4,zd0,zd1,zd2,zd3,zd4,zd5⟩ | (go_split_ands;exact⟨A8 ‹_› hbx,by repeat' first | exact A0 hbx ‹_› | constructor⟩))
    clear hK K
    try refine tkP ?_
    refine Ck (rs:=[19]) (by kernel_rfl) (by simp) ?_
    refine BU (o:=⟨A2 26,_,_,_,_,_⟩) rfl (fun K hK=>?_) C6
    go_simp
    go_split_ands
    go_at_call 26
    refine (HFC.out _ (A8 HW1.out ‹_›)).mono ?_
    rintro e wx ⟨rfl,hbx⟩
    go_wp2_with fail
    refine hK.out _ _ ?_ (fun hHeld=>?_)
    ·(first | exact⟨(Ab _ _).drew,zr0,zr1,zr2,zr3,zr4,zd0,zd1,zd2,zd3,zd4,zd5⟩ | (go_split_ands;exact⟨A8 ‹_› hbx,by repeat' first | exact A0 hbx ‹_› | constructor⟩))
    clear hK K
    try refine tkP ?_
    refine tkY 20 (oi:=⟨A2 27,_,_,_,_,_⟩) (.bool true) ?_
    refine tkP ?_
    refine tkY 21 (oi:=⟨A2 28,_,_,_,_,_⟩) (.bool true) ?_
    refine tkP ?_
    refine tkY 22 (oi:=⟨A2 4,_,_,_,_,_⟩) (.bool true) ?_
    refine tkP ?_
    refine FZ (by kernel_rfl) ?_ _
    go_split_ands
    go_wp2
    go_ret
    exact⟨Ay (by simp),A8 HB1.out ‹_›⟩
   ·have RT:∀ W',A6 W.heap.size W W'→Ac A3 12 #[.agg #[.int .i64 q.op,.int .i64 q.fld,.slice sa q.ws.length sc,.int .i64 q.a,.int .i64 q.b,.slice ka q.ks.length kc]] W' fun e w'=>e=.returned (.bool false)∧A6 W'.heap.size W' w':=fun W' h9=>(HRT.out W' h9).mono fun e w' ⟨b,he,hb,hq⟩=>⟨by rw[he,Bool.eq_false_iff.2 (fun h8=>hR (hb.1 h8))],hq⟩
    have HRC:=J RT
    clear RT HRT hR
    go_enter NM,Tryz.ntmps8
    go_wp2_with (go_at_call 10;((with_reducible refine HA.out.mono ?_);rintro e w1 ⟨rfl,hb1⟩;clear hW;have HB1:=J (A8 HB.out hb1);have HW1:=J hb1;have zr0:=A0 hb1 r0;have zr1:=A0 hb1 r1;have zr2:=A0 hb1 r2;have zr3:=A0 hb1 r3;have zr4:=A0 hb1 r4;have zd0:=A0 hb1 d0;have zd1:=A0 hb1 d1;have zd2:=A0 hb1 d2;have zd3:=A0 hb1 d3;have zd4:=A0 hb1 d4;have zd5:=A0 hb1 d5;clear hb1 r0 r1 r2 r3 r4 d0 d1 d2 d3 d4 d5))
    refine Dx (S:=(fun w'=>A6 w1.heap.size w1 w'∧w'.cell? ⟨w.heap.size,0,A4⟩=A2 (.int .i64 r.id)∧w'.cell? ⟨w.heap.size,1,A4⟩=A2 (.int .i64 r.ver)∧w'.cell? ⟨w.heap.size,2,A4⟩=A2 (.int .i64 r.kind)∧w'.cell? ⟨w.heap.size,3,A4⟩=A2 (.string r.lang)∧w'.cell? ⟨w.heap.size,4,A4⟩=A2 (.slice fa r.fields.length fc)∧w'.cell? ⟨w.heap.size+1,0,A4⟩=A2 (.int .i64 q.op)∧w'.cell? ⟨w.heap.size+1,1,A4⟩=A2 (.int .i64 q.fld)∧w'.cell? ⟨w.heap.size+1,2,A4⟩=A2 (.slice sa q.ws.length sc)∧w'.cell? ⟨w.heap.size+1,3,A4⟩=A2 (.int .i64 q.a)∧w'.cell? ⟨w.heap.size+1,4,A4⟩=A2 (.int .i64 q.b)∧w'.cell? ⟨w.heap.size+1,5,A4⟩=A2 (.slice ka q.ks.length kc))) (by kernel_rfl) ?_ (fun hHeld=>?_)
    ·(first | exact⟨(Ab _ _).drew,zr0,zr1,zr2,zr3,zr4,zd0,zd1,zd2,zd3,zd4,zd5⟩ | (go_split_ands;exact⟨A8 ‹_› hbx,by repeat' first | exact A0 hbx ‹_› | constructor⟩))
    refine tkY 0 (oi:=⟨A2 7,_,_,_,_,_⟩) (.agg #[.int .i64 r.id,.int .i64 r.ver,.int .i64 r.kind,.string r.lang,.slice fa r.fields.length fc]) ?_
    refine tkP ?_
    refine Ck (rs:=[1]) (by kernel_rfl) (by simp) ?_
    refine BU (o:=⟨A2 8,_,_,_,_,_⟩) rfl (fun K hK=>?_) C6
    go_simp
    go_split_ands
    go_at_call 23
    refine (HSC.out _ (A8 HW1.out ‹_›)).mono ?_
    rintro e wx ⟨rfl,hbx⟩
    go_wp2_with fail
    refine hK.out _ _ ?_ (fun hHeld=>?_)
    ·(first | exact⟨(Ab _ _).drew,zr0,zr1,zr2,zr3,zr4,zd0,zd1,zd2,zd3,zd4,zd5⟩ | (go_split_ands;exact⟨A8 ‹_› hbx,by repeat' first | exact A0 hbx ‹_› | constructor⟩))
    clear hK K
    try refine tkP ?_
    refine tkY 2 (oi:=⟨A2 9,_,_,_,_,_⟩) (.bool false) ?_
    refine tkP ?_
    refine tkY 3 (oi:=⟨A2 10,_,_,_,_,_⟩) (.bool false) ?_
    refine tkP ?_
    refine tkY 4 (oi:=⟨A2 11,_,_,_,_,_⟩) (.agg #[.int .i64 r.id,.int .i64 r.ver,.int .i64 r.kind,.string r.lang,.slice fa r.fields.length fc]) ?_
    refine tkP ?_
    refine Ck (rs:=[5]) (by kernel_rfl) (by simp) ?_
    refine BU (o:=⟨A2 12,_,_,_,_,_⟩) rfl (fun K hK=>?_) C6
    go_simp
    go_split_ands
    go_at_call 24
    refine (HEC.out _ (A8 HW1.out ‹_›)).mono ?_
    rintro e wx ⟨rfl,hbx⟩
    go_wp2_with fail
    refine hK.out _ _ ?_ (fun hHeld=>?_)
    ·(first | exact⟨(Ab _ _).drew,zr0,zr1,zr2,zr3,zr4,zd0,zd1,zd2,zd3,zd4,zd5⟩ | (go_split_ands;exact⟨A8 ‹_› hbx,by repeat' first | exact A0 hbx ‹_› | constructor⟩))
    clear hK K
    try refine tkP ?_
    refine tkY 6 (oi:=⟨A2 13,_,_,_,_,_⟩) (.bool false) ?_
    refine tkP ?_
    refine tkY 7 (oi:=⟨A2 14,_,_,_,_,_⟩) (.bool false) ?_
    refine tkP ?_
    refine tkY 8 (oi:=⟨A2 15,_,_,_,_,_⟩) (.bool false) ?_
    refine tkP ?_
    refine tkY 9 (oi:=⟨A2 16,_,_,_,_,_⟩) (.agg #[.int .i64 q.op,.int .i64 q.fld,.slice sa q.ws.length sc,.int .i64 q.a,.int .i64 q.b,.slice ka q.ks.length kc]) ?_
    refine tkP ?_
    refine Ck (rs:=[10]) (by kernel_rfl) (by simp) ?_
    refine BU (o:=⟨A2 17,_,_,_,_,_⟩) rfl (fun K hK=>?_) C6
    go_simp
    go_split_ands
    go_at_call 12
    refine (HRC.out _ (A8 HW1.out ‹_›)).mono ?_
    rintro e wx ⟨rfl,hbx⟩
    go_wp2_with fail
    refine hK.out _ _ ?_ (fun hHeld=>?_)
    ·(first | exact⟨(Ab _ _).drew,zr0,zr1,zr2,zr3,zr4,zd0,zd1,zd2,zd3,zd4,zd5⟩ | (go_split_ands;exact⟨A8 ‹_› hbx,by repeat' first | exact A0 hbx ‹_› | constructor⟩))
    clear hK K
    try refine tkP ?_
    refine tkY 11 (oi:=⟨A2 18,_,_,_,_,_⟩) (.bool true) ?_
    refine tkP ?_
    refine tkY 12 (oi:=⟨A2 19,_,_,_,_,_⟩) (.bool true) ?_
    refine tkP ?_
    refine tkY 13 (oi:=⟨A2 20,_,_,_,_,_⟩) (.bool true) ?_
    refine tkP ?_
    refine tkN 14 (oi:=⟨A2 21,_,_,_,_,_⟩) ?_
    refine tkP ?_
    refine tkN 15 (oi:=⟨A2 22,_,_,_,_,_⟩) ?_
    refine tkP ?_
    refine tkN 16 (oi:=⟨A2 23,_,_,_,_,_⟩) ?_
    refine tkP ?_
    refine tkN 17 (oi:=⟨A2 24,_,_,_,_,_⟩) ?_
    refine tkP ?_
    refine tkN 18 (oi:=⟨A2 25,_,_,_,_,_⟩) ?_
    refine tkP ?_
    refine tkN 19 (oi:=⟨A2 26,_,_,_,_,_⟩) ?_
    refine tkP ?_
    refine tkN 20 (oi:=⟨A2 27,_,_,_,_,_⟩) ?_
    refine tkP ?_
    refine tkY 21 (oi:=⟨A2 28,_,_,_,_,_⟩) (.bool true) ?_
    refine tkP ?_
    refine tkY 22 (oi:=⟨A2 4,_,_,_,_,_⟩) (.bool true) ?_
    refine tkP ?_
    refine FZ (by kernel_rfl) ?_ _
    go_split_ands
    go_wp2
    go_ret
    exact⟨Ay (by simp),A8 HB1.out ‹_›⟩
  ·have hne:(E != 0)=true:=bne_iff_ne.2 hE0
   clear hE hE0 HRT
   go_enter NM,Tryz.ntmps8
   go_wp2_with (go_at_call 10;((with_reducible refine HA.out.mono ?_);rintro e w1 ⟨rfl,hb1⟩;clear hW;have HB1:=J (A8 HB.out hb1);have HW1:=J hb1;have zr0:=A0 hb1 r0;have zr1:=A0 hb1 r1;have zr2:=A0 hb1 r2;have zr3:=A0 hb1 r3;have zr4:=A0 hb1 r4;have zd0:=A0 hb1 d0;have zd1:=A0 hb1 d1;have zd2:=A0 hb1 d2;have zd3:=A0 hb1 d3;have zd4:=A0 hb1 d4;have zd5:=A0 hb1 d5;clear hb1 r0 r1 r2 r3 r4 d0 d1 d2 d3 d4 d5))
   refine Dx (S:=(fun w'=>A6 w1.heap.size w1 w'∧w'.cell? ⟨w.heap.size,0,A4⟩=A2 (.int .i64 r.id)∧w'.cell? ⟨w.heap.size,1,A4⟩=A2 (.int .i64 r.ver)∧w'.cell? ⟨w.heap.size,2,A4⟩=A2 (.int .i64 r.kind)∧w'.cell? ⟨w.heap.size,3,A4⟩=A2 (.string r.lang)∧w'.cell? ⟨w.heap.size,4,A4⟩=A2 (.slice fa r.fields.length fc)∧w'.cell? ⟨w.heap.size+1,0,A4⟩=A2 (.int .i64 q.op)∧w'.cell? ⟨w.heap.size+1,1,A4⟩=A2 (.int .i64 q.fld)∧w'.cell? ⟨w.heap.size+1,2,A4⟩=A2 (.slice sa q.ws.length sc)∧w'.cell? ⟨w.heap.size+1,3,A4⟩=A2 (.int .i64 q.a)∧w'.cell? ⟨w.heap.size+1,4,A4⟩=A2 (.int .i64 q.b)∧w'.cell? ⟨w.heap.size+1,5,A4⟩=A2 (.slice ka q.ks.length kc))) (by kernel_rfl) ?_ (fun hHeld=>?_)
   ·(first | exact⟨(Ab _ _).drew,zr0,zr1,zr2,zr3,zr4,zd0,zd1,zd2,zd3,zd4,zd5⟩ | (go_split_ands;exact⟨A8 ‹_› hbx,by repeat' first | exact A0 hbx ‹_› | constructor⟩))
   refine tkY 0 (oi:=⟨A2 7,_,_,_,_,_⟩) (.agg #[.int .i64 r.id,.int .i64 r.ver,.int .i64 r.kind,.string r.lang,.slice fa r.fields.length fc]) ?_
   refine tkP ?_
   refine Ck (rs:=[1]) (by kernel_rfl) (by simp) ?_
   refine BU (o:=⟨A2 8,_,_,_,_,_⟩) rfl (fun K hK=>?_) C6
   go_simp
   go_split_ands
   go_at_call 23
   refine (HSC.out _ (A8 HW1.out ‹_›)).mono ?_
   rintro e wx ⟨rfl,hbx⟩
   go_wp2_with fail
   refine hK.out _ _ ?_ (fun hHeld=>?_)
   ·(first | exact⟨(Ab _ _).drew,zr0,zr1,zr2,zr3,zr4,zd0,zd1,zd2,zd3,zd4,zd5⟩ | (go_split_ands;exact⟨A8 ‹_› hbx,by repeat' first | exact A0 hbx ‹_› | constructor⟩))
   clear hK K
   try refine tkP ?_
   refine tkY 2 (oi:=⟨A2 9,_,_,_,_,_⟩) (.bool false) ?_
   refine tkP ?_
   refine tkY 3 (oi:=⟨A2 10,_,_,_,_,_⟩) (.bool false) ?_
   refine tkP ?_
   refine tkY 4 (oi:=⟨A2 11,_,_,_,_,_⟩) (.agg #[.int .i64 r.id,.int .i64 r.ver,.int .i64 r.kind,.string r.lang,.slice fa r.fields.length fc]) ?_
   refine tkP ?_
   refine Ck (rs:=[5]) (by kernel_rfl) (by simp) ?_
   refine BU (o:=⟨A2 12,_,_,_,_,_⟩) rfl (fun K hK=>?_) C6
   go_simp
   go_split_ands
   go_at_call 24
   refine (HEC.out _ (A8 HW1.out ‹_›)).mono ?_
   rintro e wx ⟨rfl,hbx⟩
   go_wp2_with fail
   refine hK.out _ _ ?_ (fun hHeld=>?_)
   ·(first | exact⟨(Ab _ _).drew,zr0,zr1,zr2,zr3,zr4,zd0,zd1,zd2,zd3,zd4,zd5⟩ | (go_split_ands;exact⟨A8 ‹_› hbx,by repeat' first | exact A0 hbx ‹_› | constructor⟩))
   clear hK K
   try refine tkP ?_
   refine tkY 6 (oi:=⟨A2 13,_,_,_,_,_⟩) (.bool true) ?_
   refine tkP ?_
   refine tkY 7 (oi:=⟨A2 14,_,_,_,_,_⟩) (.bool true) ?_
   refine tkP ?_
   refine tkY 8 (oi:=⟨A2 15,_,_,_,_,_⟩) (.bool true) ?_
   refine tkP ?_
   refine tkN 9 (oi:=⟨A2 16,_,_,_,_,_⟩) ?_
   refine tkP ?_
   refine tkN 10 (oi:=⟨A2 17,_,_,_,_,_⟩) ?_
   refine tkP ?_
   refine tkN 11 (oi:=⟨A2 18,_,_,_,_,_⟩) ?_
   refine tkP ?_
   refine tkY 12 (oi:=⟨A2 19,_,_,_,_,_⟩) (.bool true) ?_
   refine tkP ?_
   refine tkY 13 (oi:=⟨A2 20,_,_,_,_,_⟩) (.bool true) ?_
   refine tkP ?_
   refine tkN 14 (oi:=⟨A2 21,_,_,_,_,_⟩) ?_
   refine tkP ?_
   refine tkN 15 (oi:=⟨A2 22,_,_,_,_,_⟩) ?_
   refine tkP ?_
   refine tkN 16 (oi:=⟨A2 23,_,_,_,_,_⟩) ?_
   refine tkP ?_
   refine tkN 17 (oi:=⟨A2 24,_,_,_,_,_⟩) ?_
   refine tkP ?_
   refine tkN 18 (oi:=⟨A2 25,_,_,_,_,_⟩) ?_
   refine tkP ?_
   refine tkN 19 (oi:=⟨A2 26,_,_,_,_,_⟩) ?_
   refine tkP ?_
   refine tkN 20 (oi:=⟨A2 27,_,_,_,_,_⟩) ?_
   refine tkP ?_
   refine tkY 21 (oi:=⟨A2 28,_,_,_,_,_⟩) (.bool true) ?_
   refine tkP ?_
   refine tkY 22 (oi:=⟨A2 4,_,_,_,_,_⟩) (.bool true) ?_
   refine tkP ?_
   refine FZ (by kernel_rfl) ?_ _
   go_split_ands
   go_wp2
   go_ret
   exact⟨Ay (by simp),A8 HB1.out ‹_›⟩
end Go.Proofs.YtlakomilichhnaaGreatDoor
