/- Texts of this seat's, what the claim needs of them. -/
import Derived.Test.YtlakomilichhnaaGreatDoorZOn
import Derived.Test.YtlakomilichhnaaGreatDoorZOz
import Derived.Laws.Runes
import Derived.Test.YtlakomilichhnaaGreatDoorZPe2
namespace Go.Proofs.YtlakomilichhnaaGreatDoor
set_option maxHeartbeats 3200000
set_option maxRecDepth 100000
open Go.RowKit
open Go renaming Addr→Ao,Calls→Ac,World→A9,cell_later→A0,heap_alloc_new→Ar,maxLen→Au
open Ix renaming IA→DA,build→F5
open Ix.IA renaming of_own→BW
open Lib renaming hid→J
open List renaming getElem?_eq_some_iff→Ai,length→Cd,mem_cons→B9,mem_map→B3,mem_singleton→Bf
open Option renaming none→A4,some→A2
open Proofs.Tryz renaming prog→A3
open Qr renaming encQ→Dm,parse→Dl
open Rc renaming RdA→Fk
open RowKit renaming Below→A6
open RowKit.Below renaming refl→Ab
open Sr renaming ex3→Lc
open Tx renaming blk→Aq,blk_later→Aj,newb→Aa,step→A8
namespace Qr
end Qr
namespace Rc
end Rc
namespace Sr
open Rc hiding bys
open Qr
structure Rl (l:List Rd):Prop where
 r:∀ x∈l,Rg x
 n:(l.map (·.id)).Nodup
 len:l.length≤12
theorem Rl.dist {l:List Rd} (h:Rl l):Ix.Dist l:=by
 intro r hr q hq e
 have key:∀ (l:List Rd),(l.map (·.id)).Nodup→r∈l→q∈l→r=q:=by
  intro l
  induction l with
  | nil=>intro _ h1;cases h1
  | cons x t ih =>
   intro hn h1 h2
   rw[List.map_cons,List.nodup_cons]at hn
   rcases B9.1 h1 with h1 | h1
   ·rcases B9.1 h2 with h2 | h2
    ·rw[h1,h2]
    ·exact absurd (B3.2 ⟨q,h2,by rw[← e,h1]⟩) hn.1
   ·rcases B9.1 h2 with h2 | h2
    ·exact absurd (B3.2 ⟨r,h1,by rw[e,h2]⟩) hn.1
    ·exact ih hn.2 h1 h2
 exact key l h.n hr hq
theorem gx_build {l:List Rd} (h:Rl l) {T:List Ix.PT} (hT:T.map (·.1)=F5 l) (hl:T.length≤2500000000):Gx T:=by
 have hf:∀ t∈T,∃ r∈l,1≤r.id∧t.1∈Ix.posts r:=fun t ht=>Ix.build_mem (by rw[← hT];exact B3.2 ⟨t,ht,rfl⟩)
 refine⟨hl,fun t ht=>?_,fun t ht=>?_,fun t ht=>?_,by rw[hT];exact Ix.bld_asc l _,fun t ht n hn=>?_⟩
 ·obtain⟨r,hr,h1,hp⟩:=hf t ht
  obtain⟨_,_,_,h5,_⟩:=Ix.posts_mem.1 hp
  exact Nat.le_trans (Ix.terms_ok (h.r r hr).gd _ _ h5).2 (by decide)
 ·obtain⟨r,hr,h1,hp⟩:=hf t ht
  obtain⟨_,_,_,_,h6⟩:=Ix.posts_mem.1 hp
  rw[h6]
  have h7:=Ix.places_len (Ix.terms r.fields t.1.fld) t.1.word
  have h8:=Ix.terms_len (h.r r hr).mod t.1.fld
  omega
 ·obtain⟨r,hr,h1,hp⟩:=hf t ht
  obtain⟨_,_,h4,_,_⟩:=Ix.posts_mem.1 hp
  have:=(h.r r hr).ids
  unfold In64
  omega
 ·obtain⟨r,hr,h1,hp⟩:=hf t ht
  obtain⟨_,_,_,_,h6⟩:=Ix.posts_mem.1 hp
  rw[h6]at hn
  have h7:=Ix.places_lt hn
  have h8:=Ix.terms_len (h.r r hr).mod t.1.fld
  omega
theorem parse_ok {s:ByteArray} (h:(parse s.data.toList).2=0):Rq (parse s.data.toList).1∧Wz 1000000 (parse s.data.toList).1:=by
 by_cases hl:1000<s.size
 ·exfalso
  unfold parse at h
  rw[if_pos (by rw[← Lib.size_eq];exact hl)]at h
  cases h
 ·have hl':¬ 1000<s.data.toList.length:=by rw[← Lib.size_eq];exact hl
  cases hv:Tx.valid s.data.toList with
  | false =>
   exfalso
   unfold parse at h
   rw[if_neg hl',if_pos hv]at h
   cases h
  | true =>
   have hok:=tokF_ok hl hv
   cases hx:pOr true (8*(tokens s.data.toList).length+8) (tokens s.data.toList) with
   | none =>
    exfalso
    rw[parse_none hl' hv hx]at h
    cases h
   | some z =>
    obtain⟨q,t⟩:=z
    cases t with
    | cons t r =>
     exfalso
     rw[parse_rest hl' hv hx]at h
     cases h
    | nil =>
     have hw:=(wz_all true (8*(tokens s.data.toList).length+8)).1 (tokens s.data.toList) hok.1 q [] hx
     rw[parse_end hl' hv hx]at h ⊢
     by_cases hr:rightE q=0
     ·rw[if_pos hr]
      exact⟨rq_right hr,hw⟩
     ·exfalso
      rw[if_neg hr]at h
      exact hr h
def runL (l:List Rd) (s:By) (by_:Int) (lang:By):List Int:=if (parse s).2=0 then order l (evalQ (F5 l) l (parse s).1) by_ lang else []
end Sr
theorem search_Run_by (l:List Rc.Rd) (la:Option Ao) (lc:Nat) (s:ByteArray) (by_:Int) (lang:ByteArray) (w:A9) (hG:G w) (hPC:∀ (w:A9),G w→Ac A3 54 #[.string s] w fun e w'=>∃ t,e=.returned (.tuple #[.agg (Dm t).toArray,.int .i64 (Dl s.data.toList).2])∧Qr.QC w.heap.size w' (Dl s.data.toList).1 (Dm t)∧A6 w.heap.size w w') (rl:Fk w la lc l) (hR:Sr.Rl l) :
  Ac A3 21 #[.slice la l.length lc,.string s,.int .i64 by_,.string lang] w fun e w'=>∃ v,e=.returned (.tuple #[v,.int .i64 (Dl s.data.toList).2])∧Ix.OwnI w' w.heap.size v (Sr.runL l s.data.toList by_ lang.data.toList)∧A6 w.heap.size w w':=by
 obtain⟨q,hq⟩:∃ q,(Dl s.data.toList).1=q:=⟨_,rfl⟩
 obtain⟨E,hE⟩:∃ E,(Dl s.data.toList).2=E:=⟨_,rfl⟩
 have hok:=Sr.parse_ok (s:=s)
 have PC:Ac A3 54 #[.string s] w fun e w'=>∃ sa sc ka kc,e=.returned (.tuple #[.agg #[.int .i64 q.op,.int .i64 q.fld,.slice sa q.ws.length sc,.int .i64 q.a,.int .i64 q.b,.slice ka q.ks.length kc],.int .i64 E])∧Qr.QC w.heap.size w' q [.int .i64 q.op,.int .i64 q.fld,.slice sa q.ws.length sc,.int .i64 q.a,.int .i64 q.b,.slice ka q.ks.length kc]∧A6 w.heap.size w w':=(hPC w hG).mono fun e w' ⟨t,he,hc,hb⟩=>by
  rw[hq]at hc
  rw[hE]at he
  obtain⟨sa,sc,ka,kc,e9,_⟩:=hc.kids
  rw[e9]at he hc
  exact⟨sa,sc,ka,kc,he,hc,hb⟩
 have HPC:=J PC
 rw[hE]
 unfold Sr.runL
 rw[hq,hE]
 rw[hq,hE]at hok
 clear PC hq hE
 by_cases h0:E=0
 ·subst h0
  rw[if_pos rfl]
  obtain⟨hrq,hwz⟩:=hok rfl
  obtain⟨R,hRR⟩:∃ R,Sr.evalQ (F5 l) l q=R:=⟨_,rfl⟩
  rw[hRR]
  have BC:∀ W',A6 w.heap.size w W'→Ac A3 55 #[.slice la l.length lc] W' fun e w'=>∃ a' c' T',e=.returned (.agg #[.slice a' (Cd T') c'])∧Ix.PsA w' a' c' T'∧Sr.Gx T'∧T'.map (·.1)=F5 l∧A6 W'.heap.size W' w':=fun W' h9 =>
   (ix_Build_c l la lc W' (hG.below h9) (rl.below h9) (by have:=hR.len;omega) (fun r hr=>(hR.r r hr).mod) (fun r hr=>(hR.r r hr).gd) (fun r hr=>by have:=(hR.r r hr).ids;omega)).mono fun e w' ⟨a',c',T',he,hp,hm,hl,hb⟩=>⟨a',c',T',he,hp,Sr.gx_build hR hm hl,hm,hb⟩
  have EC:∀ W' a' c' T' cs,A6 w.heap.size w W'→Ix.PsA W' a' c' T'→Sr.Gx T'→T'.map (·.1)=F5 l→Qr.QC w.heap.size W' q cs→Ac A3 15 #[.agg #[.slice a' (Cd T') c'],.slice la l.length lc,.agg cs.toArray] W' fun e w'=>∃ ia ic,e=.returned (.slice ia R.length ic)∧DA w' ia ic R∧A6 W'.heap.size W' w':=fun W' a' c' T' cs h9 hp hx hm hc=>by
   have h:=search_Eval_c T' a' c' l la lc w.heap.size q cs W' hp hx (rl.below h9) hR.r hR.dist (by have:=hR.len;omega) hc hrq hwz
   rw[hm,hRR]at h
   exact h.mono fun e w' ⟨v,he,ho,hb⟩=>by obtain⟨ia,ic,rfl,hia,_⟩:=BW ho rfl;exact⟨ia,ic,he,hia,hb⟩
  have OC:∀ W' ia ic,A6 w.heap.size w W'→DA W' ia ic R→Ac A3 17 #[.slice la l.length lc,.slice ia R.length ic,.int .i64 by_,.string lang] W' fun e w'=>∃ v,e=.returned v∧Ix.OwnI w' W'.heap.size v (Sr.order l R by_ lang.data.toList)∧A6 W'.heap.size W' w':=fun W' ia ic h9 hia=>search_Order_c l la lc R ia ic by_ lang W' (hG.below h9) (rl.below h9) hia hR.r hR.n hR.len
  have HBC:=J BC
  have HEC:=J EC
  have HOC:=J OC
  obtain⟨O,hO⟩:∃ O,Sr.order l R by_ lang.data.toList=O:=⟨_,rfl⟩
  rw[hO]at HOC
  rw[hO]
  clear BC EC OC hok hrq hwz hRR hO rl hR hG
  go_enter Tryz.func21,Tryz.ntmps21
  go_wp2_with (go_at_call 54;((with_reducible refine HPC.out.mono ?_);rintro e w1 ⟨sa,sc,ka,kc,rfl,hqc,hb1⟩;have HQC:=J hqc;clear hqc))
  obtain⟨W,hW⟩:∃ W,w1.alloc (.cells #[.int .i64 q.op,.int .i64 q.fld,.slice sa q.ws.length sc,.int .i64 q.a,.int .i64 q.b,.slice ka q.ks.length kc] 29)=W:=⟨_,rfl⟩
  have hB1:A6 w1.heap.size w1 W:=by rw[← hW];exact Aa _ _
  have hB:A6 w.heap.size w W:=A8 hb1 hB1
  have hBs:=hB.size
  have d0:W.cell? ⟨w1.heap.size,0,A4⟩=A2 (.int .i64 q.op):=by rw[← hW];simp
  have d1:W.cell? ⟨w1.heap.size,1,A4⟩=A2 (.int .i64 q.fld):=by rw[← hW];simp
  have d2:W.cell? ⟨w1.heap.size,2,A4⟩=A2 (.slice sa q.ws.length sc):=by rw[← hW];simp
  have d3:W.cell? ⟨w1.heap.size,3,A4⟩=A2 (.int .i64 q.a):=by rw[← hW];simp
  have d4:W.cell? ⟨w1.heap.size,4,A4⟩=A2 (.int .i64 q.b):=by rw[← hW];simp
  have d5:W.cell? ⟨w1.heap.size,5,A4⟩=A2 (.slice ka q.ks.length kc):=by rw[← hW];simp
  have HQW:=J (HQC.out.later hB1)
  (try rw[hW])
  clear hW
  go_region_held3 (fun w'=>A6 W.heap.size W w'∧w'.cell? ⟨w1.heap.size,0,A4⟩=A2 (.int .i64 q.op)∧w'.cell? ⟨w1.heap.size,1,A4⟩=A2 (.int .i64 q.fld)∧w'.cell? ⟨w1.heap.size,2,A4⟩=A2 (.slice sa q.ws.length sc)∧w'.cell? ⟨w1.heap.size,3,A4⟩=A2 (.int .i64 q.a)∧w'.cell? ⟨w1.heap.size,4,A4⟩=A2 (.int .i64 q.b)∧w'.cell? ⟨w1.heap.size,5,A4⟩=A2 (.slice ka q.ks.length kc))
   (first | exact⟨(Ab _ _).drew,d0,d1,d2,d3,d4,d5⟩ | (go_split_ands;exact⟨A8 ‹_› hbx,by repeat' first | exact A0 hbx ‹_› | constructor⟩))
   (first
    |(go_split_ands;go_at_call 55;((with_reducible refine (HBC.out _ (A8 hB ‹_›)).mono ?_);rintro e wx ⟨a',c',T',rfl,hp,hx,hm,hbx⟩;have HPX:=J hp;have HGX:=J hx;have HMX:=J hm;clear hp hx hm))
    |(go_split_ands;go_at_call 15;((with_reducible refine (HEC.out _ _ _ _ _ (A8 hB ‹_›) HPX.out HGX.out HMX.out (HQW.out.later ‹_›)).mono ?_);rintro e wx ⟨ia,ic,rfl,hia,hbx⟩;have HIA:=J hia;clear hia))
    |(go_split_ands;go_at_call 17;((with_reducible refine (HOC.out _ _ _ (A8 hB ‹_›) HIA.out).mono ?_);rintro e wx ⟨v,rfl,ho,hbx⟩;have hwsz:=(by assumption:A6 W.heap.size W _).size;have HO:=J (Sr.ownI_le ho (Nat.le_trans hBs hwsz));clear ho)))
  go_split_ands
  have hb9:A6 W.heap.size W wx:=by assumption
  go_wp2
  go_ret2
  exact⟨_,rfl,HO.out,A8 hB hb9⟩
 ·rw[if_neg h0]
  have hne:(E != 0)=true:=bne_iff_ne.2 h0
  clear hok rl hR hG
  go_enter Tryz.func21,Tryz.ntmps21
  go_wp2_with (go_at_call 54;((with_reducible refine HPC.out.mono ?_);rintro e w1 ⟨sa,sc,ka,kc,rfl,hqc,hb1⟩;clear hqc))
  go_ret2
  exact⟨_,rfl,World.ownsRow_nil _ _ _ _,A8 hb1 (Aa _ _)⟩
namespace Sr
theorem lit_fa {α:Type}{enc:α→List Value}{size:Nat} (hs:∀ x,(enc x).length=size) {w:A9}{b:Nat}{xs:List α}{t:TypeId} (h:w.heap[b]?=A2 (.cells (xs.flatMap enc).toArray t (0,0))) (hl:xs.length≤1000):Br.FA enc size w (A2 ⟨b,0,A4⟩) xs.length xs:=by
 refine⟨Nat.le_refl _,by unfold Au;omega,b,0,fun _=>⟨rfl,(Array.getElem?_eq_some_iff.1 h).1⟩,fun j i x u hx hu=>?_⟩
 rw[Nat.zero_add,(Aq h).1,List.getElem?_toArray,Br.flat_at enc size hs xs j i x hx (by rw[← hs x];exact (Ai.1 hu).1),hu]
end Sr
theorem sr_runs_c (l:List Rc.Rd) (la:Option Ao) (lc:Nat) (s:ByteArray) (by_:Int) (want:List Int) (wa:Option Ao) (wc:Nat) (w:A9) (hG:G w) (hPC:∀ (w:A9),G w→Ac A3 54 #[.string s] w fun e w'=>∃ t,e=.returned (.tuple #[.agg (Dm t).toArray,.int .i64 (Dl s.data.toList).2])∧Qr.QC w.heap.size w' (Dl s.data.toList).1 (Dm t)∧A6 w.heap.size w w') (rl:Fk w la lc l) (hR:Sr.Rl l) (hw:DA w wa wc want) (h0:(Dl s.data.toList).2=0) (h1:Sr.runL l s.data.toList by_ [101,110,103]=want) :
  Ac A3 29 #[.slice la l.length lc,.string s,.int .i64 by_,.slice wa want.length wc] w fun e w'=>e=.returned (.bool true)∧A6 w.heap.size w w':=by
 have RC:=search_Run_by l la lc s by_ ⟨[101,110,103].toArray⟩ w hG hPC rl hR
 rw[h0]at RC
 have h2:Sr.runL l s.data.toList by_ (⟨[101,110,103].toArray⟩:ByteArray).data.toList=want:=h1
 rw[h2]at RC
 have HRC:=J RC
 have HW:=J hw
 clear hPC RC h1 h2 h0 hw hG rl hR
 go_enter Tryz.func29,Tryz.ntmps29
 go_wp2_with (first
  |(go_at_call 21;((with_reducible refine HRC.out.mono ?_);rintro e w1 ⟨v,rfl,ho,hb1⟩;obtain⟨va,vc,rfl,hia,_⟩:=BW ho rfl;have HIA:=J hia;clear hia ho))
  |(go_at_call 14;((refine (Ints_c want want _ _ _ _ _ HIA.out (HW.out.below hb1)).mono ?_);rintro e w2 ⟨rfl,hb2⟩;rw[decide_eq_true rfl])))
 go_ret
 exact⟨rfl,A8 hb1 hb2⟩
namespace Sr
abbrev fT (title:ByteArray):Rc.Fl:=⟨⟨[50,52,53].toArray⟩,⟨[32,32].toArray⟩,[(97,title)],0⟩
abbrev fY (year:ByteArray):Rc.Fl:=⟨⟨[50,54,52].toArray⟩,⟨[32,49].toArray⟩,[(99,year)],0⟩
end Sr
theorem sr_book1_c (id:Int) (title:ByteArray) (w:A9) :
  Ac A3 28 #[.int .i64 id,.string title,.string ⟨#[]⟩] w fun e w'=>∃ fa fc,e=.returned (.agg #[.int .i64 id,.int .i64 3,.int .i64 1,.string ⟨[101,110,103].toArray⟩,.slice fa 1 fc])∧Rc.FldA w' fa fc [Sr.fT title]∧A6 w.heap.size w w':=by
 obtain⟨W,hW⟩:∃ W,(((w.alloc (.cells #[.int .i64 id,.int .i64 3,.int .i64 1,.string ⟨[101,110,103].toArray⟩,.slice (A2 ⟨w.heap.size+1+1,0,A4⟩) 1 1] 51)).alloc (.cells #[.int .u8 97,.string title] 96)).alloc (.cells #[.string ⟨[50,52,53].toArray⟩,.string ⟨[32,32].toArray⟩,.slice (A2 ⟨w.heap.size+1,0,A4⟩) 1 1,.int .i64 0] 84)).alloc (.cells #[.int .i64 id,.int .i64 3,.int .i64 1,.string ⟨[101,110,103].toArray⟩,.slice (A2 ⟨w.heap.size+1+1,0,A4⟩) 1 1] 51)=W:=⟨_,rfl⟩
 have hB:A6 w.heap.size w W:=by rw[← hW];exact (((Aa _ _).alloc (by simp) _).alloc (by simp;omega) _).alloc (by simp;omega) _
 have KX:W.heap[w.heap.size]?=A2 (.cells #[.int .i64 id,.int .i64 3,.int .i64 1,.string ⟨[101,110,103].toArray⟩,.slice (A2 ⟨w.heap.size+1+1,0,A4⟩) 1 1] 51 (0,0)):=by
  rw[← hW]
  exact Aj (Ar w _) (((Aa _ _).alloc (by simp) _).alloc (by simp) _)
 have KS:W.heap[w.heap.size+1]?=A2 (.cells #[.int .u8 97,.string title] 96 (0,0)):=by
  rw[← hW]
  have h:=Ar (w.alloc (.cells #[.int .i64 id,.int .i64 3,.int .i64 1,.string ⟨[101,110,103].toArray⟩,.slice (A2 ⟨w.heap.size+1+1,0,A4⟩) 1 1] 51)) (.cells #[.int .u8 97,.string title] 96)
  rw[show (w.alloc (.cells #[.int .i64 id,.int .i64 3,.int .i64 1,.string ⟨[101,110,103].toArray⟩,.slice (A2 ⟨w.heap.size+1+1,0,A4⟩) 1 1] 51)).heap.size=w.heap.size+1 by simp]at h
  exact Aj h ((Aa _ _).alloc (by simp) _)
 have KF:W.heap[w.heap.size+1+1]?=A2 (.cells #[.string ⟨[50,52,53].toArray⟩,.string ⟨[32,32].toArray⟩,.slice (A2 ⟨w.heap.size+1,0,A4⟩) 1 1,.int .i64 0] 84 (0,0)):=by
  rw[← hW]
  have h:=Ar ((w.alloc (.cells #[.int .i64 id,.int .i64 3,.int .i64 1,.string ⟨[101,110,103].toArray⟩,.slice (A2 ⟨w.heap.size+1+1,0,A4⟩) 1 1] 51)).alloc (.cells #[.int .u8 97,.string title] 96)) (.cells #[.string ⟨[50,52,53].toArray⟩,.string ⟨[32,32].toArray⟩,.slice (A2 ⟨w.heap.size+1,0,A4⟩) 1 1,.int .i64 0] 84)
  rw[show ((w.alloc (.cells #[.int .i64 id,.int .i64 3,.int .i64 1,.string ⟨[101,110,103].toArray⟩,.slice (A2 ⟨w.heap.size+1+1,0,A4⟩) 1 1] 51)).alloc (.cells #[.int .u8 97,.string title] 96)).heap.size=w.heap.size+1+1 by simp]at h
  exact Aj h (Aa _ _)
 obtain⟨xc,xf,xl⟩:=Aq KX
 have HS:=J (Rc.SubA.of_fa (Sr.lit_fa Rc.encS_len (xs:=[(97,title)]) KS (by simp)))
 have HF:=J (Sr.lit_fa (enc:=Rc.encF) Rc.encF_len (xs:=[(Sr.fT title,A2 ⟨w.heap.size+1,0,A4⟩,1)]) KF (by simp))
 go_enter Tryz.func28,Tryz.ntmps28
 go_wp2
 refine bodyPost_ret (v:=.agg #[.int .i64 id,.int .i64 3,.int .i64 1,.string ⟨[101,110,103].toArray⟩,.slice (A2 ⟨w.heap.size+1+1,0,A4⟩) 1 1]) ?_ rfl ⟨A2 ⟨w.heap.size+1+1,0,A4⟩,1,rfl,?_,?_⟩
 ·have x0:=xc 0
  have x1:=xc 1
  have x2:=xc 2
  have x3:=xc 3
  have x4:=xc 4
  simp[results,Tryz.results28,go_sem,x0,x1,x2,x3,x4]
 ·exact Rc.FldA.of_fa (T:=[(Sr.fT title,A2 ⟨w.heap.size+1,0,A4⟩,1)]) HF.out (fun t ht=>by rw[Bf]at ht;rw[ht];exact HS.out)
 ·exact hB
namespace Sr
theorem lit_fa2 {α:Type}{enc:α→List Value}{size:Nat} (hs:∀ x,(enc x).length=size) {w:A9}{b c:Nat}{xs:List α}{cs:Array Value}{t:TypeId} (h:w.heap[b]?=A2 (.cells cs t (0,0))) (hc:∀ i,i<xs.length*size→cs[i]?=(xs.flatMap enc)[i]?) (hl:xs.length≤c) (hm:c≤Au):Br.FA enc size w (A2 ⟨b,0,A4⟩) c xs:=by
 refine⟨hl,hm,b,0,fun _=>⟨rfl,(Array.getElem?_eq_some_iff.1 h).1⟩,fun j i x u hx hu=>?_⟩
 have hi:i<size:=by rw[← hs x];exact (Ai.1 hu).1
 have hj:=(Ai.1 hx).1
 have hlt:j*size+i<xs.length*size:=by
  have:=Nat.mul_le_mul_right size (show j+1≤xs.length by omega)
  rw[Nat.succ_mul]at this
  omega
 rw[Nat.zero_add,(Aq h).1,hc _ hlt,Br.flat_at enc size hs xs j i x hx hi,hu]
end Sr
theorem sr_book2_c (id:Int) (title year:ByteArray) (w:A9) (hy:year.data.toList≠[]) :
  Ac A3 28 #[.int .i64 id,.string title,.string year] w fun e w'=>∃ fa fc,e=.returned (.agg #[.int .i64 id,.int .i64 3,.int .i64 1,.string ⟨[101,110,103].toArray⟩,.slice fa 2 fc])∧Rc.FldA w' fa fc [Sr.fT title,Sr.fY year]∧A6 w.heap.size w w':=by
 have hyb:(year.toList == [])=false:=by rw[Lib.toList_data];exact beq_eq_false_iff_ne.2 hy
 obtain⟨c,hc⟩:∃ c,(Question.appendCap 2 1 84).cut (w.tape w.drawn (Question.appendCap 2 1 84))=c:=⟨_,rfl⟩
 have hcb:2≤c∧c≤Au:=by
  rw[← hc]
  show 2≤2+_ % (2 ^ 63 - 2)∧2+_ % (2 ^ 63 - 2)≤Au
  have h9:=Nat.mod_lt (w.tape w.drawn (Question.appendCap 2 1 84)) (show 0<2 ^ 63 - 2 by decide)
  unfold Au
  omega
 obtain⟨W,hW⟩:∃ W,(((((((w.alloc (.cells #[.int .i64 id,.int .i64 3,.int .i64 1,.string ⟨[101,110,103].toArray⟩,.slice (A2 ⟨w.heap.size+1+1+1+1+1+1,0,A4⟩) 2 c] 51)).alloc (.cells #[.int .u8 97,.string title] 96)).alloc (.cells #[.string ⟨[50,52,53].toArray⟩,.string ⟨[32,32].toArray⟩,.slice (A2 ⟨w.heap.size+1,0,A4⟩) 1 1,.int .i64 0] 84)).alloc (.cells #[.int .i64 id,.int .i64 3,.int .i64 1,.string ⟨[101,110,103].toArray⟩,.slice (A2 ⟨w.heap.size+1+1+1+1+1+1,0,A4⟩) 2 c] 51)).alloc (.cells #[.int .u8 99,.string year] 96)).alloc (.cells #[.string ⟨[50,54,52].toArray⟩,.string ⟨[32,49].toArray⟩,.slice (A2 ⟨w.heap.size+1+1+1+1,0,A4⟩) 1 1,.int .i64 0] 84)).alloc (.cells (#[.string ⟨[50,52,53].toArray⟩,.string ⟨[32,32].toArray⟩,.slice (A2 ⟨w.heap.size+1,0,A4⟩) 1 1,.int .i64 0]++(#[.string ⟨[50,54,52].toArray⟩,.string ⟨[32,49].toArray⟩,.slice (A2 ⟨w.heap.size+1+1+1+1,0,A4⟩) 1 1,.int .i64 0]++Builtin.zeroCells #[.string ⟨#[]⟩,.string ⟨#[]⟩,.slice A4 0 0,.int .i64 0] (c - 2))) 84))=W:=⟨_,rfl⟩
 have hB:A6 w.heap.size w W:=by rw[← hW];exact ((((((((Aa _ _).alloc (by simp) _).alloc (by simp;try omega) _).alloc (by simp;try omega) _).alloc (by simp;try omega) _).alloc (by simp;try omega) _).alloc (by simp;try omega) _))
 have blkAt:∀ (n:Nat) (w0:A9) (o:Obj) (k:Nat),w0.heap.size=k→A6 (w0.alloc o).heap.size (w0.alloc o) W→W.heap[k]?=A2 o:=fun n w0 o k hk hb=>by
  rw[← hk,hb.block _ (by simp)]
  exact Ar w0 o
 have KX:W.heap[w.heap.size]?=A2 (.cells #[.int .i64 id,.int .i64 3,.int .i64 1,.string ⟨[101,110,103].toArray⟩,.slice (A2 ⟨w.heap.size+1+1+1+1+1+1,0,A4⟩) 2 c] 51 (0,0)):=blkAt 0 w _ _ (by simp) (by rw[← hW];exact (((((((Ab _ _).alloc (by simp;try omega) _).alloc (by simp;try omega) _).alloc (by simp;try omega) _).alloc (by simp;try omega) _).alloc (by simp;try omega) _).alloc (by simp;try omega) _))
 have KS:W.heap[w.heap.size+1]?=A2 (.cells #[.int .u8 97,.string title] 96 (0,0)):=blkAt 0 (w.alloc (.cells #[.int .i64 id,.int .i64 3,.int .i64 1,.string ⟨[101,110,103].toArray⟩,.slice (A2 ⟨w.heap.size+1+1+1+1+1+1,0,A4⟩) 2 c] 51)) _ _ (by simp) (by rw[← hW];exact ((((((Ab _ _).alloc (by simp;try omega) _).alloc (by simp;try omega) _).alloc (by simp;try omega) _).alloc (by simp;try omega) _).alloc (by simp;try omega) _))
 have KS2:W.heap[w.heap.size+1+1+1+1]?=A2 (.cells #[.int .u8 99,.string year] 96 (0,0)):=blkAt 0 ((((w.alloc (.cells #[.int .i64 id,.int .i64 3,.int .i64 1,.string ⟨[101,110,103].toArray⟩,.slice (A2 ⟨w.heap.size+1+1+1+1+1+1,0,A4⟩) 2 c] 51)).alloc (.cells #[.int .u8 97,.string title] 96)).alloc (.cells #[.string ⟨[50,52,53].toArray⟩,.string ⟨[32,32].toArray⟩,.slice (A2 ⟨w.heap.size+1,0,A4⟩) 1 1,.int .i64 0] 84)).alloc (.cells #[.int .i64 id,.int .i64 3,.int .i64 1,.string ⟨[101,110,103].toArray⟩,.slice (A2 ⟨w.heap.size+1+1+1+1+1+1,0,A4⟩) 2 c] 51)) _ _ (by simp) (by rw[← hW];exact (((Ab _ _).alloc (by simp;try omega) _).alloc (by simp;try omega) _))
 have KA:W.heap[w.heap.size+1+1+1+1+1+1]?=A2 (.cells (#[.string ⟨[50,52,53].toArray⟩,.string ⟨[32,32].toArray⟩,.slice (A2 ⟨w.heap.size+1,0,A4⟩) 1 1,.int .i64 0]++(#[.string ⟨[50,54,52].toArray⟩,.string ⟨[32,49].toArray⟩,.slice (A2 ⟨w.heap.size+1+1+1+1,0,A4⟩) 1 1,.int .i64 0]++Builtin.zeroCells #[.string ⟨#[]⟩,.string ⟨#[]⟩,.slice A4 0 0,.int .i64 0] (c - 2))) 84 (0,0)):=blkAt 0 ((((((w.alloc (.cells #[.int .i64 id,.int .i64 3,.int .i64 1,.string ⟨[101,110,103].toArray⟩,.slice (A2 ⟨w.heap.size+1+1+1+1+1+1,0,A4⟩) 2 c] 51)).alloc (.cells #[.int .u8 97,.string title] 96)).alloc (.cells #[.string ⟨[50,52,53].toArray⟩,.string ⟨[32,32].toArray⟩,.slice (A2 ⟨w.heap.size+1,0,A4⟩) 1 1,.int .i64 0] 84)).alloc (.cells #[.int .i64 id,.int .i64 3,.int .i64 1,.string ⟨[101,110,103].toArray⟩,.slice (A2 ⟨w.heap.size+1+1+1+1+1+1,0,A4⟩) 2 c] 51)).alloc (.cells #[.int .u8 99,.string year] 96)).alloc (.cells #[.string ⟨[50,54,52].toArray⟩,.string ⟨[32,49].toArray⟩,.slice (A2 ⟨w.heap.size+1+1+1+1,0,A4⟩) 1 1,.int .i64 0] 84)) _ _ (by simp) (by rw[← hW];exact (Ab _ _))
 clear blkAt
 obtain⟨xc,xf,xl⟩:=Aq KX
 have HS:=J (Rc.SubA.of_fa (Sr.lit_fa Rc.encS_len (xs:=[(97,title)]) KS (by simp)))
 have HS2:=J (Rc.SubA.of_fa (Sr.lit_fa Rc.encS_len (xs:=[(99,year)]) KS2 (by simp)))
 have HF:=J (Sr.lit_fa2 (enc:=Rc.encF) Rc.encF_len (c:=c) (xs:=[(Sr.fT title,A2 ⟨w.heap.size+1,0,A4⟩,1),(Sr.fY year,A2 ⟨w.heap.size+1+1+1+1,0,A4⟩,1)]) KA (fun i hi=>by
  have hi8:i<8:=hi
  rcases (by omega:i=0∨i=1∨i=2∨i=3∨i=4∨i=5∨i=6∨i=7) with rfl | rfl | rfl | rfl | rfl | rfl | rfl | rfl <;> simp[Array.getElem?_append]) hcb.1 hcb.2)
 have hbd:A6 W.heap.size W W.drew:=(Ab _ _).drew
 clear KS KS2 KA
 go_enter Tryz.func28,Tryz.ntmps28
 go_wp2
 refine bodyPost_ret (v:=.agg #[.int .i64 id,.int .i64 3,.int .i64 1,.string ⟨[101,110,103].toArray⟩,.slice (A2 ⟨w.heap.size+1+1+1+1+1+1,0,A4⟩) 2 c]) ?_ rfl ⟨A2 ⟨w.heap.size+1+1+1+1+1+1,0,A4⟩,c,rfl,?_,?_⟩
 ·have x0:=A0 hbd (xc 0)
  have x1:=A0 hbd (xc 1)
  have x2:=A0 hbd (xc 2)
  have x3:=A0 hbd (xc 3)
  have x4:=A0 hbd (xc 4)
  simp[results,Tryz.results28,go_sem,x0,x1,x2,x3,x4]
 ·exact Rc.FldA.of_fa (T:=[(Sr.fT title,A2 ⟨w.heap.size+1,0,A4⟩,1),(Sr.fY year,A2 ⟨w.heap.size+1+1+1+1,0,A4⟩,1)]) (HF.out.below hbd) (fun t ht=>by
   rcases B9.1 ht with rfl | ht
   ·exact HS.out.below hbd
   ·rw[Bf]at ht;rw[ht];exact HS2.out.below hbd)
 ·exact A8 hB hbd
namespace Sr
abbrev ids (rs:List Rc.Rd):List Int:=rs.map (·.id)
open Rc hiding bys
open Qr
theorem ex_rl:Rl ex3:=by
 refine⟨fun r hr=>?_,by decide,by decide⟩
 have hr2:r=book 1 [84,104,101,32,68,111,103,115] [49,57,57,56]∨r=book 2 [67,97,116,115] [50,48,48,49]∨r=book 3 [68,111,103,115,32,97,110,100,32,67,97,116,115] []:=by
  unfold ex3 at hr
  simpa using hr
 rcases hr2 with rfl | rfl | rfl
 ·exact rg_of (by kernel_rfl) (by kernel_rfl)
 ·exact rg_of (by kernel_rfl) (by kernel_rfl)
 ·exact rg_of (by kernel_rfl) (by kernel_rfl)
theorem runL_ex {s:By}{q:Qy} (hp:parse s=(q,0)) (by_:Int):runL ex3 s by_ [101,110,103]=exFind q by_:=by
 unfold runL
 rw[hp]
 rfl
theorem lit_ints {w:A9}{b:Nat}{xs:List Int} (h:w.heap[b]?=A2 (.cells (xs.map (Value.int .i64)).toArray 3 (0,0))) (hl:xs.length≤1000):DA w (A2 ⟨b,0,A4⟩) xs.length xs :=
 lit_fa (enc:=fun x:Int=>[Value.int .i64 x]) (size:=1) (fun _=>rfl) (by rw[Ix.flat_int];exact h) hl
theorem lit1 (w:A9) (a:Int):DA (w.alloc (.cells #[.int .i64 a] 3)) (A2 ⟨w.heap.size,0,A4⟩) 1 [a]:=lit_ints (xs:=[a]) (Ar _ _) (by simp)
theorem lit2 (w:A9) (a b:Int):DA (w.alloc (.cells #[.int .i64 a,.int .i64 b] 3)) (A2 ⟨w.heap.size,0,A4⟩) 2 [a,b]:=lit_ints (xs:=[a,b]) (Ar _ _) (by simp)
theorem lit3 (w:A9) (a b c:Int):DA (w.alloc (.cells #[.int .i64 a,.int .i64 b,.int .i64 c] 3)) (A2 ⟨w.heap.size,0,A4⟩) 3 [a,b,c]:=lit_ints (xs:=[a,b,c]) (Ar _ _) (by simp)
theorem page_ex1:page [5,6,7] 1 5=[6,7]:=by decide
theorem page_ex2:page [5,6,7] (-1) 1=[5]:=by decide
end Sr
theorem sr_ex_run0 (la:Option Ao) (lc:Nat) (w:A9) (hG:G w) (rl:Fk w la lc Lc) :
  Ac A3 21 #[.slice la 3 lc,.string ⟨[40].toArray⟩,.int .i64 0,.string ⟨[101,110,103].toArray⟩] w fun e w'=>∃ v,e=.returned (.tuple #[v,.int .i64 3])∧A6 w.heap.size w w':=by
 have h:=search_Run_by Lc la lc ⟨[40].toArray⟩ 0 ⟨[101,110,103].toArray⟩ w hG (parse_al _ al5) rl Sr.ex_rl
 have e:(Dl (⟨[40].toArray⟩:ByteArray).data.toList).2=3:=Sr.ex_parse5
 rw[e,show Sr.ex3.length=3 from rfl]at h
 exact h.mono fun e w' ⟨v,he,_,hb⟩=>⟨v,he,hb⟩
theorem sr_ex_runs1 (la:Option Ao) (lc:Nat) (wa:Option Ao) (wc:Nat) (w:A9) (hG:G w) (rl:Fk w la lc Lc) (hw:DA w wa wc [1,3]) :
  Ac A3 29 #[.slice la 3 lc,.string ⟨[100,111,103,115].toArray⟩,.int .i64 0,.slice wa 2 wc] w fun e w'=>e=.returned (.bool true)∧A6 w.heap.size w w':=by
 have e0:Dl (⟨[100,111,103,115].toArray⟩:ByteArray).data.toList=_:=Sr.ex_parse1
 have h:=sr_runs_c Lc la lc ⟨[100,111,103,115].toArray⟩ 0 [1,3] wa wc w hG (parse_al _ al1) rl Sr.ex_rl hw (by rw[e0]) ((Sr.runL_ex e0 0).trans Sr.ex_find1)
 rw[show Sr.ex3.length=3 from rfl]at h
 exact h
theorem sr_ex_runs2 (la:Option Ao) (lc:Nat) (wa:Option Ao) (wc:Nat) (w:A9) (hG:G w) (rl:Fk w la lc Lc) (hw:DA w wa wc [1,3]) :
  Ac A3 29 #[.slice la 3 lc,.string ⟨[100,111,103,115].toArray⟩,.int .i64 1,.slice wa 2 wc] w fun e w'=>e=.returned (.bool true)∧A6 w.heap.size w w':=by
 have e0:Dl (⟨[100,111,103,115].toArray⟩:ByteArray).data.toList=_:=Sr.ex_parse1
 have h:=sr_runs_c Lc la lc ⟨[100,111,103,115].toArray⟩ 1 [1,3] wa wc w hG (parse_al _ al1) rl Sr.ex_rl hw (by rw[e0]) ((Sr.runL_ex e0 1).trans Sr.ex_find2)
 rw[show Sr.ex3.length=3 from rfl]at h
 exact h
theorem sr_ex_runs3 (la:Option Ao) (lc:Nat) (wa:Option Ao) (wc:Nat) (w:A9) (hG:G w) (rl:Fk w la lc Lc) (hw:DA w wa wc [2,3]) :
  Ac A3 29 #[.slice la 3 lc,.string ⟨[99,97,116,115].toArray⟩,.int .i64 1,.slice wa 2 wc] w fun e w'=>e=.returned (.bool true)∧A6 w.heap.size w w':=by
 have e0:Dl (⟨[99,97,116,115].toArray⟩:ByteArray).data.toList=_:=Sr.ex_parse2
 have h:=sr_runs_c Lc la lc ⟨[99,97,116,115].toArray⟩ 1 [2,3] wa wc w hG (parse_al _ al2) rl Sr.ex_rl hw (by rw[e0]) ((Sr.runL_ex e0 1).trans Sr.ex_find3)
 rw[show Sr.ex3.length=3 from rfl]at h
 exact h
theorem sr_ex_runs4 (la:Option Ao) (lc:Nat) (wa:Option Ao) (wc:Nat) (w:A9) (hG:G w) (rl:Fk w la lc Lc) (hw:DA w wa wc [2,1]) :
  Ac A3 29 #[.slice la 3 lc,.string ⟨[121,101,97,114,58,49,57,57,48,45,50,48,48,53].toArray⟩,.int .i64 3,.slice wa 2 wc] w fun e w'=>e=.returned (.bool true)∧A6 w.heap.size w w':=by
 have e0:Dl (⟨[121,101,97,114,58,49,57,57,48,45,50,48,48,53].toArray⟩:ByteArray).data.toList=_:=Sr.ex_parse3
 have h:=sr_runs_c Lc la lc ⟨[121,101,97,114,58,49,57,57,48,45,50,48,48,53].toArray⟩ 3 [2,1] wa wc w hG (parse_al _ al3) rl Sr.ex_rl hw (by rw[e0]) ((Sr.runL_ex e0 3).trans Sr.ex_find4)
 rw[show Sr.ex3.length=3 from rfl]at h
 exact h
theorem sr_ex_runs5 (la:Option Ao) (lc:Nat) (wa:Option Ao) (wc:Nat) (w:A9) (hG:G w) (rl:Fk w la lc Lc) (hw:DA w wa wc [1]) :
  Ac A3 29 #[.slice la 3 lc,.string ⟨[100,111,103,115,32,78,79,84,32,99,97,116,115].toArray⟩,.int .i64 0,.slice wa 1 wc] w fun e w'=>e=.returned (.bool true)∧A6 w.heap.size w w':=by
 have e0:Dl (⟨[100,111,103,115,32,78,79,84,32,99,97,116,115].toArray⟩:ByteArray).data.toList=_:=Sr.ex_parse4
 have h:=sr_runs_c Lc la lc ⟨[100,111,103,115,32,78,79,84,32,99,97,116,115].toArray⟩ 0 [1] wa wc w hG (parse_al _ al4) rl Sr.ex_rl hw (by rw[e0]) ((Sr.runL_ex e0 0).trans Sr.ex_find5)
 rw[show Sr.ex3.length=3 from rfl]at h
 exact h
theorem sr_ex_page1 (a:Option Ao) (c:Nat) (w:A9) (h:DA w a c [5,6,7]):Ac A3 19 #[.slice a 3 c,.int .i64 1,.int .i64 5] w fun e w'=>∃ pa pc,e=.returned (.slice pa 2 pc)∧DA w' pa pc [6,7]∧A6 w.heap.size w w':=by
 have h1:=search_Page_c [5,6,7] a c 1 5 w h (by decide)
 rw[Sr.page_ex1]at h1
 exact h1.mono fun e w' ⟨v,he,ho,hb⟩=>by
  obtain⟨pa,pc,rfl,hia,_⟩:=BW ho rfl
  exact⟨pa,pc,he,hia,hb⟩
theorem sr_ex_ints1 (a b:Option Ao) (c d:Nat) (w:A9) (hx:DA w a c [6,7]) (hy:DA w b d [6,7]):Ac A3 14 #[.slice a 2 c,.slice b 2 d] w fun e w'=>e=.returned (.bool true)∧A6 w.heap.size w w':=by
 have h:=Ints_c [6,7] [6,7] a b c d w hx hy
 rw[decide_eq_true rfl]at h
 exact h
theorem sr_ex_page2 (a:Option Ao) (c:Nat) (w:A9) (h:DA w a c [5,6,7]):Ac A3 19 #[.slice a 3 c,.int .i64 (-1),.int .i64 1] w fun e w'=>∃ pa pc,e=.returned (.slice pa 1 pc)∧DA w' pa pc [5]∧A6 w.heap.size w w':=by
 have h1:=search_Page_c [5,6,7] a c (-1) 1 w h (by decide)
 rw[Sr.page_ex2]at h1
 exact h1.mono fun e w' ⟨v,he,ho,hb⟩=>by
  obtain⟨pa,pc,rfl,hia,_⟩:=BW ho rfl
  exact⟨pa,pc,he,hia,hb⟩
theorem sr_ex_ints2 (a b:Option Ao) (c d:Nat) (w:A9) (hx:DA w a c [5]) (hy:DA w b d [5]):Ac A3 14 #[.slice a 1 c,.slice b 1 d] w fun e w'=>e=.returned (.bool true)∧A6 w.heap.size w w':=by
 have h:=Ints_c [5] [5] a b c d w hx hy
 rw[decide_eq_true rfl]at h
 exact h
theorem sr_alive_c (w:A9) (hG:G w):Ac A3 10 #[] w fun e w'=>e=.returned (.bool true)∧A6 w.heap.size w w':=by
 have HG:=J hG
 clear hG
 go_enter Tryz.func10,Tryz.ntmps10
 go_wp2_with (first
  |(go_at_call 14;((with_reducible refine (sr_ex_ints2 _ _ _ _ _ (HP2.out.below (Aa _ _)) (Sr.lit1 _ 5)).mono ?_);rintro e z2 ⟨rfl,hq⟩;have HZ2:=J (A8 (HW2.out.alloc HW2.out.size _) hq);clear hq))
  |(go_at_call 19;((with_reducible refine (sr_ex_page2 _ _ _ (Sr.lit3 _ 5 6 7)).mono ?_);rintro e p2 ⟨pa2,pc2,rfl,hia,hq⟩;have HP2:=J hia;have HW2:=J (A8 (HZ1.out.alloc HZ1.out.size _) hq);clear hia hq))
  |(go_at_call 14;((with_reducible refine (sr_ex_ints1 _ _ _ _ _ (HP1.out.below (Aa _ _)) (Sr.lit2 _ 6 7)).mono ?_);rintro e z1 ⟨rfl,hq⟩;have HZ1:=J (A8 (HW1.out.alloc HW1.out.size _) hq);clear hq))
  |(go_at_call 19;((with_reducible refine (sr_ex_page1 _ _ _ (Sr.lit3 _ 5 6 7)).mono ?_);rintro e p1 ⟨pa1,pc1,rfl,hia,hq⟩;have HP1:=J hia;have HW1:=J (A8 (HV5.out.alloc HV5.out.size _) hq);clear hia hq))
  |(go_at_call 29;((with_reducible refine (sr_ex_runs5 _ _ _ _ _ (HG.out.below (A8 HBW.out (HV4.out.alloc HV4.out.size _))) (HRL.out.below (HV4.out.alloc HV4.out.size _)) (Sr.lit1 _ 1)).mono ?_);rintro e v5 ⟨rfl,hq⟩;have HV5:=J (A8 (HV4.out.alloc HV4.out.size _) hq);clear hq))
  |(go_at_call 29;((with_reducible refine (sr_ex_runs4 _ _ _ _ _ (HG.out.below (A8 HBW.out (HV3.out.alloc HV3.out.size _))) (HRL.out.below (HV3.out.alloc HV3.out.size _)) (Sr.lit2 _ 2 1)).mono ?_);rintro e v4 ⟨rfl,hq⟩;have HV4:=J (A8 (HV3.out.alloc HV3.out.size _) hq);clear hq))
  |(go_at_call 29;((with_reducible refine (sr_ex_runs3 _ _ _ _ _ (HG.out.below (A8 HBW.out (HV2.out.alloc HV2.out.size _))) (HRL.out.below (HV2.out.alloc HV2.out.size _)) (Sr.lit2 _ 2 3)).mono ?_);rintro e v3 ⟨rfl,hq⟩;have HV3:=J (A8 (HV2.out.alloc HV2.out.size _) hq);clear hq))
  |(go_at_call 29;((with_reducible refine (sr_ex_runs2 _ _ _ _ _ (HG.out.below (A8 HBW.out (HV1.out.alloc HV1.out.size _))) (HRL.out.below (HV1.out.alloc HV1.out.size _)) (Sr.lit2 _ 1 3)).mono ?_);rintro e v2 ⟨rfl,hq⟩;have HV2:=J (A8 (HV1.out.alloc HV1.out.size _) hq);clear hq))
  |(go_at_call 29;((with_reducible refine (sr_ex_runs1 _ _ _ _ _ (HG.out.below (A8 HBW.out (HV0.out.alloc HV0.out.size _))) (HRL.out.below (HV0.out.alloc HV0.out.size _)) (Sr.lit2 _ 1 3)).mono ?_);rintro e v1 ⟨rfl,hq⟩;have HV1:=J (A8 (HV0.out.alloc HV0.out.size _) hq);clear hq))
  |(go_at_call 21;((with_reducible refine (sr_ex_run0 _ _ _ (HG.out.below HBW.out) HRL.out).mono ?_);rintro e v0 ⟨rv,rfl,hq⟩;have HV0:=J hq;clear hq))
  |(go_at_call 28;((with_reducible refine (sr_book1_c 3 ⟨[68,111,103,115,32,97,110,100,32,67,97,116,115].toArray⟩ _).mono ?_);rintro e u2 ⟨fa2,fc2,rfl,hf2,hb2⟩;have HF2:=J hf2;have HB2:=J (A8 HB1.out hb2);have HX0:=J (HF0.out.below (A8 hb1x.out hb2));have HX1:=J (HF1.out.below hb2);clear hf2 hb2;obtain⟨W,hW⟩:∃ W,u2.alloc (.cells #[.int .i64 1,.int .i64 3,.int .i64 1,.string ⟨[101,110,103].toArray⟩,.slice fa0 2 fc0,.int .i64 2,.int .i64 3,.int .i64 1,.string ⟨[101,110,103].toArray⟩,.slice fa1 2 fc1,.int .i64 3,.int .i64 3,.int .i64 1,.string ⟨[101,110,103].toArray⟩,.slice fa2 1 fc2] 51)=W:=⟨_,rfl⟩;have hbW:A6 u2.heap.size u2 W:=(by rw[← hW];exact Aa _ _);have KW:W.heap[u2.heap.size]?=A2 (.cells #[.int .i64 1,.int .i64 3,.int .i64 1,.string ⟨[101,110,103].toArray⟩,.slice fa0 2 fc0,.int .i64 2,.int .i64 3,.int .i64 1,.string ⟨[101,110,103].toArray⟩,.slice fa1 2 fc1,.int .i64 3,.int .i64 3,.int .i64 1,.string ⟨[101,110,103].toArray⟩,.slice fa2 1 fc2] 51 (0,0)):=(by rw[← hW];exact Ar _ _);have HRL:Hid (Fk W (A2 ⟨u2.heap.size,0,A4⟩) 3 Lc):=J (Rc.RdA.of_fa (T:=[(Sr.book 1 [84,104,101,32,68,111,103,115] [49,57,57,56],fa0,fc0),(Sr.book 2 [67,97,116,115] [50,48,48,49],fa1,fc1),(Sr.book 3 [68,111,103,115,32,97,110,100,32,67,97,116,115] [],fa2,fc2)]) (Sr.lit_fa (enc:=Rc.encR) Rc.encR_len (xs:=[(Sr.book 1 [84,104,101,32,68,111,103,115] [49,57,57,56],fa0,fc0),(Sr.book 2 [67,97,116,115] [50,48,48,49],fa1,fc1),(Sr.book 3 [68,111,103,115,32,97,110,100,32,67,97,116,115] [],fa2,fc2)]) KW (by simp)) (fun t ht=>by rcases B9.1 ht with rfl | ht;exact HX0.out.below hbW;rcases B9.1 ht with rfl | ht;exact HX1.out.below hbW;rw[Bf]at ht;rw[ht];exact HF2.out.below hbW));have HBW:=J (A8 HB2.out hbW);clear hbW KW))
  |(go_at_call 28;((with_reducible refine (sr_book2_c 2 ⟨[67,97,116,115].toArray⟩ ⟨[50,48,48,49].toArray⟩ _ (by decide)).mono ?_);rintro e u1 ⟨fa1,fc1,rfl,hf1,hb1⟩;have HF1:=J hf1;have HB1:=J (A8 HB0.out hb1);have hb1x:=J hb1;clear hf1 hb1))
  |(go_at_call 28;((with_reducible refine (sr_book2_c 1 ⟨[84,104,101,32,68,111,103,115].toArray⟩ ⟨[49,57,57,56].toArray⟩ _ (by decide)).mono ?_);rintro e u0 ⟨fa0,fc0,rfl,hf0,hb0⟩;have HF0:=J hf0;have HB0:=J (hb0);clear hf0 hb0)))
 go_ret
 exact⟨rfl,A8 HBW.out HZ2.out⟩
end Go.Proofs.YtlakomilichhnaaGreatDoor
