/- Texts of this seat's, what the claim needs of them. -/
import Derived.Test.YtlakomilichhnaaGreatDoorYEPf
import Derived.Test.YtlakomilichhnaaGreatDoorZLawSrA
import Derived.Test.YtlakomilichhnaaGreatDoorYESqT
namespace Go.Proofs.YtlakomilichhnaaGreatDoor
set_option maxHeartbeats 3200000
set_option maxRecDepth 100000
open Go.RowKit
open AllReadyH renaming cons→BU,nil→C6
open Bool renaming eq_false_iff→Bq
open Go renaming Calls→Ac,cell_later→A0,wpAnyH_done→FZ,wpAnyH_ready→Ck,wp_region_held_drew→Dx
open Lib renaming hid→J
open Option renaming none→A4,some→A2
open Proofs.Tryz renaming func12→MU,func3→NC,ntmps12→LU,prog→A3
open RowKit renaming Below→A6
open RowKit.Below renaming refl→Ab
open Tx renaming retb→Ay,step→A8
namespace Qr
end Qr
namespace Rc
end Rc
namespace Sr
open Rc hiding bys
open Qr
def RiQ (q:Qy):Prop:=Sm q∧rightE q=0
theorem RiQ.rq {q:Qy} (h:RiQ q):Rq q:=rq_right h.2
theorem RiQ.wz {q:Qy} (h:RiQ q):Wz 1000000 q:=h.1.2.wz
def SmX (T:List Ix.PT):Prop:=T.length≤400∧Ix.right (T.map (·.1))=true
theorem SmX.gx {w:World}{T:List Ix.PT} (h:SmX T) (hb:∀ t∈T,(∀ n∈t.1.at_,-9223372036854775808≤n∧n≤9223372036854775807)∧(-9223372036854775808≤t.1.id∧t.1.id≤9223372036854775807)∧t.1.word.length≤140737488351232) (hat:Ix.Ats w T):Gx T :=
 ⟨by have:=h.1;omega,fun t ht=>(hb t ht).2.2,fun t ht=>Nat.le_trans (hat t ht).cap (Nat.le_trans (hat t ht).max (by unfold maxLen;exact Nat.le_refl _)),fun t ht=>(hb t ht).2.1,Ix.right_asc h.2,fun t ht n hn=>⟨Ix.right_at h.2 t.1 (List.mem_map.2 ⟨t,ht,rfl⟩) n hn,((hb t ht).1 n hn).2⟩⟩
end Sr
theorem sr_right_c (B:Nat) (q:Qr.Qy) (cs:List Value) (w:World) (h:Qr.QC B w q cs) :
  Ac A3 12 #[.agg cs.toArray] w fun e w'=>∃ b:Bool,e=.returned (.bool b)∧(b=true↔Sr.RiQ q)∧A6 w.heap.size w w':=by
 obtain⟨sa,sc,ka,kc,rfl,_,_,_⟩:=h.kids
 obtain⟨W,hW⟩:∃ W,w.alloc (.cells #[.int .i64 q.op,.int .i64 q.fld,.slice sa q.ws.length sc,.int .i64 q.a,.int .i64 q.b,.slice ka q.ks.length kc] 29)=W:=⟨_,rfl⟩
 have hB:A6 w.heap.size w W:=by rw[← hW];exact Tx.newb _ _
 have d0:W.cell? ⟨w.heap.size,0,A4⟩=A2 (.int .i64 q.op):=by rw[← hW];simp
 have d1:W.cell? ⟨w.heap.size,1,A4⟩=A2 (.int .i64 q.fld):=by rw[← hW];simp
 have d2:W.cell? ⟨w.heap.size,2,A4⟩=A2 (.slice sa q.ws.length sc):=by rw[← hW];simp
 have d3:W.cell? ⟨w.heap.size,3,A4⟩=A2 (.int .i64 q.a):=by rw[← hW];simp
 have d4:W.cell? ⟨w.heap.size,4,A4⟩=A2 (.int .i64 q.b):=by rw[← hW];simp
 have d5:W.cell? ⟨w.heap.size,5,A4⟩=A2 (.slice ka q.ks.length kc):=by rw[← hW];simp
 have SC:=r21_Small_c B q _ W (h.later hB)
 cases hs:Qr.smB q with
 | false =>
  rw[hs]at SC
  have HSC:=J SC
  have HF:Hid (¬ Sr.RiQ q):=J (fun h9=>by rw[Qr.smB_t.2 h9.1]at hs;cases hs)
  clear SC hs h
  go_enter MU,LU
  go_wp2_with (go_at_call 31;((with_reducible refine HSC.out.mono ?_);rintro e w1 ⟨rfl,hb1⟩))
  go_ret
  exact⟨false,rfl,⟨fun h9=>(by cases h9),fun h9=>absurd h9 HF.out⟩,A8 hB hb1⟩
 | true =>
  rw[hs]at SC
  have HSC:=J SC
  have hsm:=Qr.smB_t.1 hs
  have RC:∀ W',A6 W.heap.size W W'→_:=fun W' h9=>r21_Right_c B q _ W' ((h.later hB).later h9) hsm.2.wz (by have:=hsm.1;omega)
  obtain⟨E,hE⟩:∃ E,Qr.rightE q=E:=⟨_,rfl⟩
  rw[hE]at RC
  have HRC:=J RC
  have HI:Hid ((E == 0)=true↔Sr.RiQ q):=J ⟨fun h9=>⟨hsm,by rw[hE];exact beq_iff_eq.1 h9⟩,fun h9=>by rw[beq_iff_eq,← hE];exact h9.2⟩
  obtain⟨b,hb⟩:∃ b,(E == 0)=b:=⟨_,rfl⟩
  have HI2:Hid (b=true↔Sr.RiQ q):=J (by rw[← hb];exact HI.out)
  clear SC hs h RC hsm hE HI
  go_enter MU,LU
  go_wp2_with (first
   |(go_at_call 31;((with_reducible refine HSC.out.mono ?_);rintro e w1 ⟨rfl,hb1⟩;have e0:=A0 hb1 d0;have e1:=A0 hb1 d1;have e2:=A0 hb1 d2;have e3:=A0 hb1 d3;have e4:=A0 hb1 d4;have e5:=A0 hb1 d5))
   |(go_at_call 32;((with_reducible refine (HRC.out _ hb1).mono ?_);rintro e w2 ⟨rfl,hb2⟩)))
  go_ret
  exact⟨b,rfl,HI2.out,A8 hB (A8 hb1 hb2)⟩
theorem sr_small_c (T:List Ix.PT) (xa:Option Addr) (xc:Nat) (w:World) (h:Ix.PsA w xa xc T) :
  Ac A3 13 #[.agg #[.slice xa T.length xc]] w fun e w'=>∃ b:Bool,e=.returned (.bool b)∧(b=true↔Sr.SmX T)∧A6 w.heap.size w w':=by
 obtain⟨W,hW⟩:∃ W,w.alloc (.cells #[.slice xa T.length xc] 24)=W:=⟨_,rfl⟩
 have hB:A6 w.heap.size w W:=by rw[← hW];exact Tx.newb _ _
 have c0:W.cell? ⟨w.heap.size,0,A4⟩=A2 (.slice xa T.length xc):=by rw[← hW];simp
 by_cases hl:T.length≤400
 ·have hli:(T.length:Int)≤400:=by omega
  have RC:=r20_Right_c T xa xc W (h.below hB) (by omega)
  obtain⟨b,hb⟩:∃ b,Ix.right (T.map (·.1))=b:=⟨_,rfl⟩
  rw[hb]at RC
  have HRC:=J RC
  have HI:Hid (b=true↔Sr.SmX T):=J (by rw[← hb];exact⟨fun h9=>⟨hl,h9⟩,fun h9=>h9.2⟩)
  clear RC hb hl h
  go_enter Tryz.func13,Tryz.ntmps13
  go_wp2_with (go_at_call 33;((with_reducible refine HRC.out.mono ?_);rintro e w1 ⟨rfl,hb1⟩))
  go_ret
  exact⟨b,rfl,HI.out,A8 hB hb1⟩
 ·have hli:¬ (T.length:Int)≤400:=by omega
  have HF:Hid (¬ Sr.SmX T):=J (fun h9=>hl h9.1)
  clear hl h
  go_enter Tryz.func13,Tryz.ntmps13
  go_wp2
  go_ret
  exact Or.inl ⟨rfl,HF.out,hB⟩
theorem eval_law (T:List Ix.PT) (xa:Option Addr) (xc:Nat) (l:List Rc.Rd) (la:Option Addr) (lc B:Nat) (q:Qr.Qy) (cs:List Value) (w:World) (hG:G w) (hx:Ix.PsA w xa xc T) (hxb:∀ t∈T,(∀ n∈t.1.at_,-9223372036854775808≤n∧n≤9223372036854775807)∧(-9223372036854775808≤t.1.id∧t.1.id≤9223372036854775807)∧t.1.word.length≤140737488351232) (h:Rc.RdA w la lc l) (hq:Qr.QC B w q cs) :
  Ac A3 3 #[.agg #[.slice xa T.length xc],.slice la l.length lc,.agg cs.toArray] w fun e w'=>e=.returned (.bool true)∧A6 w.heap.size w w':=by
 obtain⟨sa,sc,ka,kc,rfl,_,_,_⟩:=hq.kids
 obtain⟨W,hW⟩:∃ W,(w.alloc (.cells #[.slice xa T.length xc] 24)).alloc (.cells #[.int .i64 q.op,.int .i64 q.fld,.slice sa q.ws.length sc,.int .i64 q.a,.int .i64 q.b,.slice ka q.ks.length kc] 29)=W:=⟨_,rfl⟩
 have hB:A6 w.heap.size w W:=by rw[← hW];exact (Tx.newb _ _).alloc (by simp) _
 have c0:W.cell? ⟨w.heap.size,0,A4⟩=A2 (.slice xa T.length xc):=by rw[← hW];simp
 have d0:W.cell? ⟨w.heap.size+1,0,A4⟩=A2 (.int .i64 q.op):=by rw[← hW];simp
 have d1:W.cell? ⟨w.heap.size+1,1,A4⟩=A2 (.int .i64 q.fld):=by rw[← hW];simp
 have d2:W.cell? ⟨w.heap.size+1,2,A4⟩=A2 (.slice sa q.ws.length sc):=by rw[← hW];simp
 have d3:W.cell? ⟨w.heap.size+1,3,A4⟩=A2 (.int .i64 q.a):=by rw[← hW];simp
 have d4:W.cell? ⟨w.heap.size+1,4,A4⟩=A2 (.int .i64 q.b):=by rw[← hW];simp
 have d5:W.cell? ⟨w.heap.size+1,5,A4⟩=A2 (.slice ka q.ks.length kc):=by rw[← hW];simp
 have HA:=J (sr_alive_c W (hG.below hB))
 have HG:=J (hG.below hB)
 have HL:=J (h.below hB)
 have HX:=J (hx.below hB)
 have HQ:=J (hq.later hB)
 have HB:=J hB
 have HXB:=J hxb
 have HLT:Hid (∀ W',A6 W.heap.size W W'→Ac A3 11 #[.slice la l.length lc] W' fun e w'=>∃ b:Bool,e=.returned (.bool b)∧(b=true↔Sr.RightP l)∧A6 W'.heap.size W' w'):=J (fun W' h9=>r22_Right_c l la lc W' (HL.out.below h9))
 have HQT:Hid (∀ W',A6 W.heap.size W W'→Ac A3 12 #[.agg #[.int .i64 q.op,.int .i64 q.fld,.slice sa q.ws.length sc,.int .i64 q.a,.int .i64 q.b,.slice ka q.ks.length kc]] W' fun e w'=>∃ b:Bool,e=.returned (.bool b)∧(b=true↔Sr.RiQ q)∧A6 W'.heap.size W' w'):=J (fun W' h9=>sr_right_c B q _ W' (HQ.out.later h9))
 have HST:Hid (∀ W',A6 W.heap.size W W'→Ac A3 13 #[.agg #[.slice xa T.length xc]] W' fun e w'=>∃ b:Bool,e=.returned (.bool b)∧(b=true↔Sr.SmX T)∧A6 W'.heap.size W' w'):=J (fun W' h9=>sr_small_c T xa xc W' (HX.out.below h9))
 clear h hq hG hB hx hxb
 by_cases hL:Sr.RightP l
 ·have HLC:Hid (∀ W',A6 W.heap.size W W'→Ac A3 11 #[.slice la l.length lc] W' fun e w'=>e=.returned (.bool true)∧A6 W'.heap.size W' w'):=J (fun W' h9=>(HLT.out W' h9).mono fun e w' ⟨b,he,hb,hq⟩=>⟨by rw[he,hb.2 hL],hq⟩)
  by_cases hR:Sr.RiQ q
  ·have HQC:Hid (∀ W',A6 W.heap.size W W'→Ac A3 12 #[.agg #[.int .i64 q.op,.int .i64 q.fld,.slice sa q.ws.length sc,.int .i64 q.a,.int .i64 q.b,.slice ka q.ks.length kc]] W' fun e w'=>e=.returned (.bool true)∧A6 W'.heap.size W' w'):=J (fun W' h9=>(HQT.out W' h9).mono fun e w' ⟨b,he,hb,hq⟩=>⟨by rw[he,hb.2 hR],hq⟩)
   by_cases hS:Sr.SmX T
   ·have HSC:Hid (∀ W',A6 W.heap.size W W'→Ac A3 13 #[.agg #[.slice xa T.length xc]] W' fun e w'=>e=.returned (.bool true)∧A6 W'.heap.size W' w'):=J (fun W' h9=>(HST.out W' h9).mono fun e w' ⟨b,he,hb,hq⟩=>⟨by rw[he,hb.2 hS],hq⟩)
    have hgx:=hS.gx HXB.out HX.out.ats
    have PC:∀ W',A6 W.heap.size W W'→_:=fun W' h9=>search_Eval_c T xa xc l la lc B q _ W' (HX.out.below h9) hgx (HL.out.below h9) hL.rl.r hL.rl.dist (by have:=hL.rl.len;omega) (HQ.out.later h9) hR.rq hR.wz
    have FC:∀ W',A6 W.heap.size W W'→_:=fun W' h9=>r22_Eval_c T xa xc l la lc B q _ W' (HX.out.below h9) hgx (HL.out.below h9) hL.rl.r (by have:=hL.rl.len;omega) (HQ.out.later h9) hR.rq
    obtain⟨N,hN⟩:∃ N,Sr.evalQ (T.map (·.1)) l q=N:=⟨_,rfl⟩
    rw[hN]at PC FC
    have HPC:=J PC
    have HFC:=J FC
    clear PC FC hN hL hR hS hgx HLT HQT HST
    go_enter NC,Tryz.ntmps3
    go_wp2_with (go_at_call 10;((with_reducible refine HA.out.mono ?_);rintro e w1 ⟨rfl,hb1⟩;clear hW;have HB1:=J (A8 HB.out hb1);have HW1:=J hb1;have zc0:=A0 hb1 c0;have zd0:=A0 hb1 d0;have zd1:=A0 hb1 d1;have zd2:=A0 hb1 d2;have zd3:=A0 hb1 d3;have zd4:=A0 hb1 d4;have zd5:=A0 hb1 d5;clear hb1 c0 d0 d1 d2 d3 d4 d5))
    refine Dx (S:=(fun w'=>A6 w1.heap.size w1 w'∧w'.cell? ⟨w.heap.size,0,A4⟩=A2 (.slice xa T.length xc)∧w'.cell? ⟨w.heap.size+1,0,A4⟩=A2 (.int .i64 q.op)∧w'.cell? ⟨w.heap.size+1,1,A4⟩=A2 (.int .i64 q.fld)∧w'.cell? ⟨w.heap.size+1,2,A4⟩=A2 (.slice sa q.ws.length sc)∧w'.cell? ⟨w.heap.size+1,3,A4⟩=A2 (.int .i64 q.a)∧w'.cell? ⟨w.heap.size+1,4,A4⟩=A2 (.int .i64 q.b)∧w'.cell? ⟨w.heap.size+1,5,A4⟩=A2 (.slice ka q.ks.length kc))) (by kernel_rfl) ?_ (fun hHeld=>?_)
    ·(first | exact⟨(Ab _ _).drew,zc0,zd0,zd1,zd2,zd3,zd4,zd5⟩ | (go_split_ands;exact⟨A8 ‹_› hbx,by repeat' first | exact A0 hbx ‹_› | constructor⟩))
    refine tkY 0 (oi:=⟨A2 9,_,_,_,_,_⟩) (.slice la l.length lc) ?_
    refine tkP ?_
    refine Ck (rs:=[1]) (by kernel_rfl) (by simp) ?_
    refine BU (o:=⟨A2 10,_,_,_,_,_⟩) rfl (fun K hK=>?_) C6
    go_simp
    go_split_ands
    go_at_call 11
    refine (HLC.out _ (A8 HW1.out ‹_›)).mono ?_
    rintro e wx ⟨rfl,hbx⟩
    go_wp2_with fail
    refine hK.out _ _ ?_ (fun hHeld=>?_)
    ·(first | exact⟨(Ab _ _).drew,zc0,zd0,zd1,zd2,zd3,zd4,zd5⟩ | (go_split_ands;exact⟨A8 ‹_› hbx,by repeat' first | exact A0 hbx ‹_› | constructor⟩))
    clear hK K
    try refine tkP ?_
    refine tkY 2 (oi:=⟨A2 11,_,_,_,_,_⟩) (.bool false) ?_
    refine tkP ?_
    refine tkY 3 (oi:=⟨A2 12,_,_,_,_,_⟩) (.bool false) ?_
    refine tkP ?_
    refine tkY 4 (oi:=⟨A2 13,_,_,_,_,_⟩) (.agg #[.int .i64 q.op,.int .i64 q.fld,.slice sa q.ws.length sc,.int .i64 q.a,.int .i64 q.b,.slice ka q.ks.length kc]) ?_
    refine tkP ?_
    refine Ck (rs:=[5]) (by kernel_rfl) (by simp) ?_
    refine BU (o:=⟨A2 14,_,_,_,_,_⟩) rfl (fun K hK=>?_) C6
    go_simp
    go_split_ands
    go_at_call 12
    refine (HQC.out _ (A8 HW1.out ‹_›)).mono ?_
    rintro e wx ⟨rfl,hbx⟩
    go_wp2_with fail
    refine hK.out _ _ ?_ (fun hHeld=>?_)
    ·(first | exact⟨(Ab _ _).drew,zc0,zd0,zd1,zd2,zd3,zd4,zd5⟩ | (go_split_ands;exact⟨A8 ‹_› hbx,by repeat' first | exact A0 hbx ‹_› | constructor⟩))
    clear hK K
    try refine tkP ?_
    refine tkY 6 (oi:=⟨A2 15,_,_,_,_,_⟩) (.bool false) ?_
    refine tkP ?_
    refine tkY 7 (oi:=⟨A2 16,_,_,_,_,_⟩) (.bool false) ?_
    refine tkP ?_
    refine tkY 8 (oi:=⟨A2 17,_,_,_,_,_⟩) (.bool false) ?_
    refine tkP ?_
    refine tkY 9 (oi:=⟨A2 18,_,_,_,_,_⟩) (.agg #[.slice xa T.length xc]) ?_
    refine tkP ?_
    refine Ck (rs:=[10]) (by kernel_rfl) (by simp) ?_
    refine BU (o:=⟨A2 19,_,_,_,_,_⟩) rfl (fun K hK=>?_) C6
    go_simp
    go_split_ands
    go_at_call 13
    refine (HSC.out _ (A8 HW1.out ‹_›)).mono ?_
    rintro e wx ⟨rfl,hbx⟩
    go_wp2_with fail
    refine hK.out _ _ ?_ (fun hHeld=>?_)
    ·(first | exact⟨(Ab _ _).drew,zc0,zd0,zd1,zd2,zd3,zd4,zd5⟩ | (go_split_ands;exact⟨A8 ‹_› hbx,by repeat' first | exact A0 hbx ‹_› | constructor⟩))
    clear hK K
    try refine tkP ?_
    refine tkY 11 (oi:=⟨A2 20,_,_,_,_,_⟩) (.bool false) ?_
    refine tkP ?_
    refine tkY 12 (oi:=⟨A2 21,_,_,_,_,_⟩) (.bool false) ?_
    refine tkP ?_
    refine tkY 13 (oi:=⟨A2 22,_,_,_,_,_⟩) (.bool false) ?_
    refine tkP ?_
    refine tkY 14 (oi:=⟨A2 23,_,_,_,_,_⟩) (.agg #[.slice xa T.length xc]) ?_
    refine tkP ?_
    refine tkY 15 (oi:=⟨A2 24,_,_,_,_,_⟩) (.slice la l.length lc) ?_
    refine tkP ?_
    refine tkY 16 (oi:=⟨A2 25,_,_,_,_,_⟩) (.agg #[.int .i64 q.op,.int .i64 q.fld,.slice sa q.ws.length sc,.int .i64 q.a,.int .i64 q.b,.slice ka q.ks.length kc]) ?_
    refine tkP ?_
    refine tkY 18 (oi:=⟨A2 27,_,_,_,_,_⟩) (.agg #[.slice xa T.length xc]) ?_
    refine tkP ?_
    refine tkY 19 (oi:=⟨A2 28,_,_,_,_,_⟩) (.slice la l.length lc) ?_
    refine tkP ?_
    refine tkY 20 (oi:=⟨A2 29,_,_,_,_,_⟩) (.agg #[.int .i64 q.op,.int .i64 q.fld,.slice sa q.ws.length sc,.int .i64 q.a,.int .i64 q.b,.slice ka q.ks.length kc]) ?_
    refine tkP ?_
    refine Ck (rs:=[17]) (by kernel_rfl) (by simp) ?_
    refine BU (o:=⟨A2 26,_,_,_,_,_⟩) rfl (fun K hK=>?_) C6
    go_simp
    go_split_ands
    go_at_call 15
    refine (HPC.out _ (A8 HW1.out ‹_›)).mono ?_
    rintro e wx ⟨v1,rfl,ho,hbx⟩
    obtain⟨pa,pc,rfl,hia,_⟩:=Ix.IA.of_own ho rfl
    have HP0:=J hia
    clear ho hia
    go_wp2_with fail
    refine hK.out _ _ ?_ (fun hHeld=>?_)
    ·(first | exact⟨(Ab _ _).drew,zc0,zd0,zd1,zd2,zd3,zd4,zd5⟩ | (go_split_ands;exact⟨A8 ‹_› hbx,by repeat' first | exact A0 hbx ‹_› | constructor⟩))
    clear hK K
    try refine tkP ?_
    refine Ck (rs:=[21]) (by kernel_rfl) (by simp) ?_
    refine BU (o:=⟨A2 30,_,_,_,_,_⟩) rfl (fun K hK=>?_) C6
    go_simp
    go_split_ands
    go_at_call 16
    refine (HFC.out _ (A8 HW1.out ‹_›)).mono ?_
    rintro e wx ⟨ra,rc,rfl,hia,_,hbx⟩
    have HR0:=J hia
    have HP1:=J (HP0.out.below hbx)
    clear hia
    go_wp2_with fail
    refine hK.out _ _ ?_ (fun hHeld=>?_)
    ·(first | exact⟨(Ab _ _).drew,zc0,zd0,zd1,zd2,zd3,zd4,zd5⟩ | (go_split_ands;exact⟨A8 ‹_› hbx,by repeat' first | exact A0 hbx ‹_› | constructor⟩))
    clear hK K
    try refine tkP ?_
    refine Ck (rs:=[22]) (by kernel_rfl) (by simp) ?_
    refine BU (o:=⟨A2 31,_,_,_,_,_⟩) rfl (fun K hK=>?_) C6
    go_simp
    go_split_ands
    go_at_call 14
    refine (ints_same_c N _ _ _ _ _ HP1.out HR0.out).mono ?_
    rintro e wx ⟨rfl,hbx⟩
    go_wp2_with fail
    refine hK.out _ _ ?_ (fun hHeld=>?_)
    ·(first | exact⟨(Ab _ _).drew,zc0,zd0,zd1,zd2,zd3,zd4,zd5⟩ | (go_split_ands;exact⟨A8 ‹_› hbx,by repeat' first | exact A0 hbx ‹_› | constructor⟩))
    clear hK K
    try refine tkP ?_
    refine tkY 23 (oi:=⟨A2 32,_,_,_,_,_⟩) (.bool true) ?_
    refine tkP ?_
    refine tkY 24 (oi:=⟨A2 6,_,_,_,_,_⟩) (.bool true) ?_
    refine tkP ?_
    refine FZ (by kernel_rfl) ?_ _
    go_split_ands
    go_wp2
    go_ret
    exact⟨Ay (by simp),A8 HB1.out ‹_›⟩
   ·have HSC:Hid (∀ W',A6 W.heap.size W W'→Ac A3 13 #[.agg #[.slice xa T.length xc]] W' fun e w'=>e=.returned (.bool false)∧A6 W'.heap.size W' w'):=J (fun W' h9=>(HST.out W' h9).mono fun e w' ⟨b,he,hb,hq⟩=>⟨by rw[he,Bq.2 (fun h8=>hS (hb.1 h8))],hq⟩)
    clear hL hR hS HLT HQT HST
    go_enter NC,Tryz.ntmps3
    go_wp2_with (go_at_call 10;((with_reducible refine HA.out.mono ?_);rintro e w1 ⟨rfl,hb1⟩;clear hW;have HB1:=J (A8 HB.out hb1);have HW1:=J hb1;have zc0:=A0 hb1 c0;have zd0:=A0 hb1 d0;have zd1:=A0 hb1 d1;have zd2:=A0 hb1 d2;have zd3:=A0 hb1 d3;have zd4:=A0 hb1 d4;have zd5:=A0 hb1 d5;clear hb1 c0 d0 d1 d2 d3 d4 d5))
    refine Dx (S:=(fun w'=>A6 w1.heap.size w1 w'∧w'.cell? ⟨w.heap.size,0,A4⟩=A2 (.slice xa T.length xc)∧w'.cell? ⟨w.heap.size+1,0,A4⟩=A2 (.int .i64 q.op)∧w'.cell? ⟨w.heap.size+1,1,A4⟩=A2 (.int .i64 q.fld)∧w'.cell? ⟨w.heap.size+1,2,A4⟩=A2 (.slice sa q.ws.length sc)∧w'.cell? ⟨w.heap.size+1,3,A4⟩=A2 (.int .i64 q.a)∧w'.cell? ⟨w.heap.size+1,4,A4⟩=A2 (.int .i64 q.b)∧w'.cell? ⟨w.heap.size+1,5,A4⟩=A2 (.slice ka q.ks.length kc))) (by kernel_rfl) ?_ (fun hHeld=>?_)
    ·(first | exact⟨(Ab _ _).drew,zc0,zd0,zd1,zd2,zd3,zd4,zd5⟩ | (go_split_ands;exact⟨A8 ‹_› hbx,by repeat' first | exact A0 hbx ‹_› | constructor⟩))
    refine tkY 0 (oi:=⟨A2 9,_,_,_,_,_⟩) (.slice la l.length lc) ?_
    refine tkP ?_
    refine Ck (rs:=[1]) (by kernel_rfl) (by simp) ?_
    refine BU (o:=⟨A2 10,_,_,_,_,_⟩) rfl (fun K hK=>?_) C6
    go_simp
    go_split_ands
    go_at_call 11
    refine (HLC.out _ (A8 HW1.out ‹_›)).mono ?_
    rintro e wx ⟨rfl,hbx⟩
    go_wp2_with fail
    refine hK.out _ _ ?_ (fun hHeld=>?_)
    ·(first | exact⟨(Ab _ _).drew,zc0,zd0,zd1,zd2,zd3,zd4,zd5⟩ | (go_split_ands;exact⟨A8 ‹_› hbx,by repeat' first | exact A0 hbx ‹_› | constructor⟩))
    clear hK K
    try refine tkP ?_
    refine tkY 2 (oi:=⟨A2 11,_,_,_,_,_⟩) (.bool false) ?_
    refine tkP ?_
    refine tkY 3 (oi:=⟨A2 12,_,_,_,_,_⟩) (.bool false) ?_
    refine tkP ?_
    refine tkY 4 (oi:=⟨A2 13,_,_,_,_,_⟩) (.agg #[.int .i64 q.op,.int .i64 q.fld,.slice sa q.ws.length sc,.int .i64 q.a,.int .i64 q.b,.slice ka q.ks.length kc]) ?_
    refine tkP ?_
    refine Ck (rs:=[5]) (by kernel_rfl) (by simp) ?_
    refine BU (o:=⟨A2 14,_,_,_,_,_⟩) rfl (fun K hK=>?_) C6
    go_simp
    go_split_ands
    go_at_call 12
    refine (HQC.out _ (A8 HW1.out ‹_›)).mono ?_
    rintro e wx ⟨rfl,hbx⟩
    go_wp2_with fail
    refine hK.out _ _ ?_ (fun hHeld=>?_)
    ·(first | exact⟨(Ab _ _).drew,zc0,zd0,zd1,zd2,zd3,zd4,zd5⟩ | (go_split_ands;exact⟨A8 ‹_› hbx,by repeat' first | exact A0 hbx ‹_› | constructor⟩))
    clear hK K
    try refine tkP ?_
    refine tkY 6 (oi:=⟨A2 15,_,_,_,_,_⟩) (.bool false) ?_
    refine tkP ?_
    refine tkY 7 (oi:=⟨A2 16,_,_,_,_,_⟩) (.bool false) ?_
    refine tkP ?_
    refine tkY 8 (oi:=⟨A2 17,_,_,_,_,_⟩) (.bool false) ?_
    refine tkP ?_
    refine tkY 9 (oi:=⟨A2 18,_,_,_,_,_⟩) (.agg #[.slice xa T.length xc]) ?_
    refine tkP ?_
    refine Ck (rs:=[10]) (by kernel_rfl) (by simp) ?_
    refine BU (o:=⟨A2 19,_,_,_,_,_⟩) rfl (fun K hK=>?_) C6
    go_simp
    go_split_ands
    go_at_call 13
    refine (HSC.out _ (A8 HW1.out ‹_›)).mono ?_
    rintro e wx ⟨rfl,hbx⟩
    go_wp2_with fail
    refine hK.out _ _ ?_ (fun hHeld=>?_)
    ·(first | exact⟨(Ab _ _).drew,zc0,zd0,zd1,zd2,zd3,zd4,zd5⟩ | (go_split_ands;exact⟨A8 ‹_› hbx,by repeat' first | exact A0 hbx ‹_› | constructor⟩))
    clear hK K
    try refine tkP ?_
    refine tkY 11 (oi:=⟨A2 20,_,_,_,_,_⟩) (.bool true) ?_
    refine tkP ?_
    refine tkY 12 (oi:=⟨A2 21,_,_,_,_,_⟩) (.bool true) ?_
    refine tkP ?_
    refine tkY 13 (oi:=⟨A2 22,_,_,_,_,_⟩) (.bool true) ?_
    refine tkP ?_
    refine tkN 14 (oi:=⟨A2 23,_,_,_,_,_⟩) ?_
    refine tkP ?_
    refine tkN 15 (oi:=⟨A2 24,_,_,_,_,_⟩) ?_
    refine tkP ?_
    refine tkN 16 (oi:=⟨A2 25,_,_,_,_,_⟩) ?_
    refine tkP ?_
    refine tkN 17 (oi:=⟨A2 26,_,_,_,_,_⟩) ?_
    refine tkP ?_
    refine tkN 18 (oi:=⟨A2 27,_,_,_,_,_⟩) ?_
    refine tkP ?_
    refine tkN 19 (oi:=⟨A2 28,_,_,_,_,_⟩) ?_
    refine tkP ?_
    refine tkN 20 (oi:=⟨A2 29,_,_,_,_,_⟩) ?_
    refine tkP ?_
    refine tkN 21 (oi:=⟨A2 30,_,_,_,_,_⟩) ?_
    refine tkP ?_
    refine tkN 22 (oi:=⟨A2 31,_,_,_,_,_⟩) ?_
    refine tkP ?_
    refine tkY 23 (oi:=⟨A2 32,_,_,_,_,_⟩) (.bool true) ?_
    refine tkP ?_
    refine tkY 24 (oi:=⟨A2 6,_,_,_,_,_⟩) (.bool true) ?_
    refine tkP ?_
    refine FZ (by kernel_rfl) ?_ _
    go_split_ands
    go_wp2
    go_ret
    exact⟨Ay (by simp),A8 HB1.out ‹_›⟩
  ·have HQC:Hid (∀ W',A6 W.heap.size W W'→Ac A3 12 #[.agg #[.int .i64 q.op,.int .i64 q.fld,.slice sa q.ws.length sc,.int .i64 q.a,.int .i64 q.b,.slice ka q.ks.length kc]] W' fun e w'=>e=.returned (.bool false)∧A6 W'.heap.size W' w'):=J (fun W' h9=>(HQT.out W' h9).mono fun e w' ⟨b,he,hb,hq⟩=>⟨by rw[he,Bq.2 (fun h8=>hR (hb.1 h8))],hq⟩)
   clear hL hR HLT HQT HST
   go_enter NC,Tryz.ntmps3
   go_wp2_with (go_at_call 10;((with_reducible refine HA.out.mono ?_);rintro e w1 ⟨rfl,hb1⟩;clear hW;have HB1:=J (A8 HB.out hb1);have HW1:=J hb1;have zc0:=A0 hb1 c0;have zd0:=A0 hb1 d0;have zd1:=A0 hb1 d1;have zd2:=A0 hb1 d2;have zd3:=A0 hb1 d3;have zd4:=A0 hb1 d4;have zd5:=A0 hb1 d5;clear hb1 c0 d0 d1 d2 d3 d4 d5))
   refine Dx (S:=(fun w'=>A6 w1.heap.size w1 w'∧w'.cell? ⟨w.heap.size,0,A4⟩=A2 (.slice xa T.length xc)∧w'.cell? ⟨w.heap.size+1,0,A4⟩=A2 (.int .i64 q.op)∧w'.cell? ⟨w.heap.size+1,1,A4⟩=A2 (.int .i64 q.fld)∧w'.cell? ⟨w.heap.size+1,2,A4⟩=A2 (.slice sa q.ws.length sc)∧w'.cell? ⟨w.heap.size+1,3,A4⟩=A2 (.int .i64 q.a)∧w'.cell? ⟨w.heap.size+1,4,A4⟩=A2 (.int .i64 q.b)∧w'.cell? ⟨w.heap.size+1,5,A4⟩=A2 (.slice ka q.ks.length kc))) (by kernel_rfl) ?_ (fun hHeld=>?_)
   ·(first | exact⟨(Ab _ _).drew,zc0,zd0,zd1,zd2,zd3,zd4,zd5⟩ | (go_split_ands;exact⟨A8 ‹_› hbx,by repeat' first | exact A0 hbx ‹_› | constructor⟩))
   refine tkY 0 (oi:=⟨A2 9,_,_,_,_,_⟩) (.slice la l.length lc) ?_
   refine tkP ?_
   refine Ck (rs:=[1]) (by kernel_rfl) (by simp) ?_
   refine BU (o:=⟨A2 10,_,_,_,_,_⟩) rfl (fun K hK=>?_) C6
   go_simp
   go_split_ands
   go_at_call 11
   refine (HLC.out _ (A8 HW1.out ‹_›)).mono ?_
   rintro e wx ⟨rfl,hbx⟩
   go_wp2_with fail
   refine hK.out _ _ ?_ (fun hHeld=>?_)
   ·(first | exact⟨(Ab _ _).drew,zc0,zd0,zd1,zd2,zd3,zd4,zd5⟩ | (go_split_ands;exact⟨A8 ‹_› hbx,by repeat' first | exact A0 hbx ‹_› | constructor⟩))
   clear hK K
   try refine tkP ?_
   refine tkY 2 (oi:=⟨A2 11,_,_,_,_,_⟩) (.bool false) ?_
   refine tkP ?_
   refine tkY 3 (oi:=⟨A2 12,_,_,_,_,_⟩) (.bool false) ?_
   refine tkP ?_
   refine tkY 4 (oi:=⟨A2 13,_,_,_,_,_⟩) (.agg #[.int .i64 q.op,.int .i64 q.fld,.slice sa q.ws.length sc,.int .i64 q.a,.int .i64 q.b,.slice ka q.ks.length kc]) ?_
   refine tkP ?_
   refine Ck (rs:=[5]) (by kernel_rfl) (by simp) ?_
   refine BU (o:=⟨A2 14,_,_,_,_,_⟩) rfl (fun K hK=>?_) C6
   go_simp
   go_split_ands
   go_at_call 12
   refine (HQC.out _ (A8 HW1.out ‹_›)).mono ?_
   rintro e wx ⟨rfl,hbx⟩
   go_wp2_with fail
   refine hK.out _ _ ?_ (fun hHeld=>?_)
   ·(first | exact⟨(Ab _ _).drew,zc0,zd0,zd1,zd2,zd3,zd4,zd5⟩ | (go_split_ands;exact⟨A8 ‹_› hbx,by repeat' first | exact A0 hbx ‹_› | constructor⟩))
   clear hK K
   try refine tkP ?_
   refine tkY 6 (oi:=⟨A2 15,_,_,_,_,_⟩) (.bool true) ?_
   refine tkP ?_
   refine tkY 7 (oi:=⟨A2 16,_,_,_,_,_⟩) (.bool true) ?_
   refine tkP ?_
   refine tkY 8 (oi:=⟨A2 17,_,_,_,_,_⟩) (.bool true) ?_
   refine tkP ?_
   refine tkN 9 (oi:=⟨A2 18,_,_,_,_,_⟩) ?_
   refine tkP ?_
   refine tkN 10 (oi:=⟨A2 19,_,_,_,_,_⟩) ?_
   refine tkP ?_
   refine tkN 11 (oi:=⟨A2 20,_,_,_,_,_⟩) ?_
   refine tkP ?_
   refine tkY 12 (oi:=⟨A2 21,_,_,_,_,_⟩) (.bool true) ?_
   refine tkP ?_
   refine tkY 13 (oi:=⟨A2 22,_,_,_,_,_⟩) (.bool true) ?_
   refine tkP ?_
   refine tkN 14 (oi:=⟨A2 23,_,_,_,_,_⟩) ?_
   refine tkP ?_
   refine tkN 15 (oi:=⟨A2 24,_,_,_,_,_⟩) ?_
   refine tkP ?_
   refine tkN 16 (oi:=⟨A2 25,_,_,_,_,_⟩) ?_
   refine tkP ?_
   refine tkN 17 (oi:=⟨A2 26,_,_,_,_,_⟩) ?_
   refine tkP ?_
   refine tkN 18 (oi:=⟨A2 27,_,_,_,_,_⟩) ?_
   refine tkP ?_
   refine tkN 19 (oi:=⟨A2 28,_,_,_,_,_⟩) ?_
   refine tkP ?_
   refine tkN 20 (oi:=⟨A2 29,_,_,_,_,_⟩) ?_
   refine tkP ?_
   refine tkN 21 (oi:=⟨A2 30,_,_,_,_,_⟩) ?_
   refine tkP ?_
   refine tkN 22 (oi:=⟨A2 31,_,_,_,_,_⟩) ?_
   refine tkP ?_
   refine tkY 23 (oi:=⟨A2 32,_,_,_,_,_⟩) (.bool true) ?_
   refine tkP ?_
   refine tkY 24 (oi:=⟨A2 6,_,_,_,_,_⟩) (.bool true) ?_
   refine tkP ?_
   refine FZ (by kernel_rfl) ?_ _
   go_split_ands
   go_wp2
   go_ret
   exact⟨Ay (by simp),A8 HB1.out ‹_›⟩
 ·have HLC:Hid (∀ W',A6 W.heap.size W W'→Ac A3 11 #[.slice la l.length lc] W' fun e w'=>e=.returned (.bool false)∧A6 W'.heap.size W' w'):=J (fun W' h9=>(HLT.out W' h9).mono fun e w' ⟨b,he,hb,hq⟩=>⟨by rw[he,Bq.2 (fun h8=>hL (hb.1 h8))],hq⟩)
  clear hL HLT HQT HST
  go_enter NC,Tryz.ntmps3
  go_wp2_with (go_at_call 10;((with_reducible refine HA.out.mono ?_);rintro e w1 ⟨rfl,hb1⟩;clear hW;have HB1:=J (A8 HB.out hb1);have HW1:=J hb1;have zc0:=A0 hb1 c0;have zd0:=A0 hb1 d0;have zd1:=A0 hb1 d1;have zd2:=A0 hb1 d2;have zd3:=A0 hb1 d3;have zd4:=A0 hb1 d4;have zd5:=A0 hb1 d5;clear hb1 c0 d0 d1 d2 d3 d4 d5))
  refine Dx (S:=(fun w'=>A6 w1.heap.size w1 w'∧w'.cell? ⟨w.heap.size,0,A4⟩=A2 (.slice xa T.length xc)∧w'.cell? ⟨w.heap.size+1,0,A4⟩=A2 (.int .i64 q.op)∧w'.cell? ⟨w.heap.size+1,1,A4⟩=A2 (.int .i64 q.fld)∧w'.cell? ⟨w.heap.size+1,2,A4⟩=A2 (.slice sa q.ws.length sc)∧w'.cell? ⟨w.heap.size+1,3,A4⟩=A2 (.int .i64 q.a)∧w'.cell? ⟨w.heap.size+1,4,A4⟩=A2 (.int .i64 q.b)∧w'.cell? ⟨w.heap.size+1,5,A4⟩=A2 (.slice ka q.ks.length kc))) (by kernel_rfl) ?_ (fun hHeld=>?_)
  ·(first | exact⟨(Ab _ _).drew,zc0,zd0,zd1,zd2,zd3,zd4,zd5⟩ | (go_split_ands;exact⟨A8 ‹_› hbx,by repeat' first | exact A0 hbx ‹_› | constructor⟩))
  refine tkY 0 (oi:=⟨A2 9,_,_,_,_,_⟩) (.slice la l.length lc) ?_
  refine tkP ?_
  refine Ck (rs:=[1]) (by kernel_rfl) (by simp) ?_
  refine BU (o:=⟨A2 10,_,_,_,_,_⟩) rfl (fun K hK=>?_) C6
  go_simp
  go_split_ands
  go_at_call 11
  refine (HLC.out _ (A8 HW1.out ‹_›)).mono ?_
  rintro e wx ⟨rfl,hbx⟩
  go_wp2_with fail
  refine hK.out _ _ ?_ (fun hHeld=>?_)
  ·(first | exact⟨(Ab _ _).drew,zc0,zd0,zd1,zd2,zd3,zd4,zd5⟩ | (go_split_ands;exact⟨A8 ‹_› hbx,by repeat' first | exact A0 hbx ‹_› | constructor⟩))
  clear hK K
  try refine tkP ?_
  refine tkY 2 (oi:=⟨A2 11,_,_,_,_,_⟩) (.bool true) ?_
  refine tkP ?_
  refine tkY 3 (oi:=⟨A2 12,_,_,_,_,_⟩) (.bool true) ?_
  refine tkP ?_
  refine tkN 4 (oi:=⟨A2 13,_,_,_,_,_⟩) ?_
  refine tkP ?_
  refine tkN 5 (oi:=⟨A2 14,_,_,_,_,_⟩) ?_
  refine tkP ?_
  refine tkN 6 (oi:=⟨A2 15,_,_,_,_,_⟩) ?_
  refine tkP ?_
  refine tkY 7 (oi:=⟨A2 16,_,_,_,_,_⟩) (.bool true) ?_
  refine tkP ?_
  refine tkY 8 (oi:=⟨A2 17,_,_,_,_,_⟩) (.bool true) ?_
  refine tkP ?_
  refine tkN 9 (oi:=⟨A2 18,_,_,_,_,_⟩) ?_
  refine tkP ?_
  refine tkN 10 (oi:=⟨A2 19,_,_,_,_,_⟩) ?_
  refine tkP ?_
  refine tkN 11 (oi:=⟨A2 20,_,_,_,_,_⟩) ?_
  refine tkP ?_
  refine tkY 12 (oi:=⟨A2 21,_,_,_,_,_⟩) (.bool true) ?_
  refine tkP ?_
  refine tkY 13 (oi:=⟨A2 22,_,_,_,_,_⟩) (.bool true) ?_
  refine tkP ?_
  refine tkN 14 (oi:=⟨A2 23,_,_,_,_,_⟩) ?_
  refine tkP ?_
  refine tkN 15 (oi:=⟨A2 24,_,_,_,_,_⟩) ?_
  refine tkP ?_
  refine tkN 16 (oi:=⟨A2 25,_,_,_,_,_⟩) ?_
  refine tkP ?_
  refine tkN 17 (oi:=⟨A2 26,_,_,_,_,_⟩) ?_
  refine tkP ?_
  refine tkN 18 (oi:=⟨A2 27,_,_,_,_,_⟩) ?_
  refine tkP ?_
  refine tkN 19 (oi:=⟨A2 28,_,_,_,_,_⟩) ?_
  refine tkP ?_
  refine tkN 20 (oi:=⟨A2 29,_,_,_,_,_⟩) ?_
  refine tkP ?_
  refine tkN 21 (oi:=⟨A2 30,_,_,_,_,_⟩) ?_
  refine tkP ?_
  refine tkN 22 (oi:=⟨A2 31,_,_,_,_,_⟩) ?_
  refine tkP ?_
  refine tkY 23 (oi:=⟨A2 32,_,_,_,_,_⟩) (.bool true) ?_
  refine tkP ?_
  refine tkY 24 (oi:=⟨A2 6,_,_,_,_,_⟩) (.bool true) ?_
  refine tkP ?_
  refine FZ (by kernel_rfl) ?_ _
  go_split_ands
  go_wp2
  go_ret
  exact⟨Ay (by simp),A8 HB1.out ‹_›⟩
end Go.Proofs.YtlakomilichhnaaGreatDoor
