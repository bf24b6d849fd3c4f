/- Texts of this seat's, what the claim needs of them. -/
import Derived.Test.YtlakomilichhnaaGreatDoorZOr
import Derived.Test.YtlakomilichhnaaGreatDoorYXOl
import Derived.Test.YtlakomilichhnaaGreatDoorYXShelf
import Derived.Test.YtlakomilichhnaaGreatDoorYXOb
namespace Go.Proofs.YtlakomilichhnaaGreatDoor
set_option maxHeartbeats 1600000
set_option maxRecDepth 100000
open Go.RowKit
open Lib renaming hid→J
open List renaming getElem?_eq_getElem→A7,mem_of_getElem?→Ag,take_append_drop→BJ,take_length→Ap
open Option renaming none→A4,some→A2
open Qr renaming depth→H4,depthL→Es,depthL_app→J6,nodes→D1,nodesL→CJ,nodesL_app→Gr
namespace Qr
theorem QC.len {B:Nat}{w:World}{q:Qy}{cs:List Value} (h:QC B w q cs):cs.length=6:=by cases h;rfl
end Qr
theorem r21_Nodes_c (B:Nat):∀ (q:Qr.Qy) (cs:List Value) (L:Nat) (w:World),Qr.QC B w q cs→L≤1000000000 →
  Calls Tryz.prog 75 #[.agg cs.toArray,.int .i64 L] w fun e w'=>e=.returned (.int .i64 ((min (D1 q) (L+1):Nat):Int))∧Below w.heap.size w w':=by
 refine Qr.Qy.ind ?_
 intro op fl ws ya yb ks ih cs L w h hn
 obtain⟨sa,sc,ka,kc,rfl,_,_,hK⟩:=h.kids
 dsimp only[Qr.Qy.op,Qr.Qy.fld,Qr.Qy.a,Qr.Qy.b,Qr.Qy.ks,Qr.Qy.ws]at hK ⊢
 have IH:=J ih;clear ih
 obtain⟨W,hW⟩:∃ W,w.alloc (.cells #[.int .i64 op,.int .i64 fl,.slice sa ws.length sc,.int .i64 ya,.int .i64 yb,.slice ka ks.length kc] 29)=W:=⟨_,rfl⟩
 have hB:Below w.heap.size w W:=by rw[← hW];exact Tx.newb _ _
 have c0:W.cell? ⟨w.heap.size,0,A4⟩=A2 (.int .i64 op):=by rw[← hW];simp
 have c1:W.cell? ⟨w.heap.size,1,A4⟩=A2 (.int .i64 fl):=by rw[← hW];simp
 have c2:W.cell? ⟨w.heap.size,2,A4⟩=A2 (.slice sa ws.length sc):=by rw[← hW];simp
 have c3:W.cell? ⟨w.heap.size,3,A4⟩=A2 (.int .i64 ya):=by rw[← hW];simp
 have c4:W.cell? ⟨w.heap.size,4,A4⟩=A2 (.int .i64 yb):=by rw[← hW];simp
 have c5:W.cell? ⟨w.heap.size,5,A4⟩=A2 (.slice ka ks.length kc):=by rw[← hW];simp
 have hS:=hK.below hB
 have hmax:=hK.max
 have hmx:maxLen=9223372036854775807:=rfl
 unfold D1
 go_enter Tryz.func75,Tryz.ntmps75
 go_wp2
 clear hW c0 c1 c2 c3 c4
 go_loopw [5,6] (fun n i wr=>∃ k m:Nat,k≤ks.length∧i=.int .i64 k∧n=.int .i64 (m:Int)∧Hid (m=min (1+CJ (ks.take k)) (L+1))∧m≤L+1∧Below W.heap.size W wr) (fun _ i _=>ks.length - (intOf i).toNat)
 case atStart=>exact⟨0,1,Nat.zero_le _,rfl,rfl,J (by simp only[List.take_zero,CJ];omega),by omega,Below.refl _ _⟩
 case round =>
  obtain⟨k,m,hk,rfl,rfl,hm,hmL,hb⟩:=hrel
  have e5:=cell_later hb c5
  by_cases hlt:k<ks.length
  ·obtain⟨x,hx⟩:∃ x,ks[k]?=A2 x:=⟨_,A7 hlt⟩
   have htk:=Qr.take_snoc hx
   have hT:CJ (ks.take (k+1))=CJ (ks.take k)+D1 x:=by rw[htk,Gr];simp[CJ]
   have hle:CJ (ks.take k)≤CJ ks:=by
    have:=Gr (ks.take k) (ks.drop k)
    rw[BJ]at this
    omega
   by_cases hmm:m≤L
   ·obtain⟨b,o,sa2,sc2,ka2,kc2,rfl,hbl,d0,d1,d2,d3,d4,d5,hq⟩:=(hS.below hb).get hx
    have hmem:=Ag hx
    have HT:=J hT;clear hT
    have HM:=J hmem;clear hmem
    have HQ:=J hq;clear hq
    have HL:=J hle;clear hle
    clear htk hx
    have hw:=IntWalk.i64_in ((L:Int) - (m:Int)) ⟨by omega,by omega⟩
    have hc:((L:Int) - (m:Int))=((L - m:Nat):Int):=by omega
    have HC:=J hc;clear hc
    go_wp2_with (go_at_call 75;rw[HC.out];refine (IH.out x HM.out _ (L - m) _ HQ.out (by omega)).mono ?_;rintro e w1 ⟨rfl,hb1⟩)
    have hm2:m+min (D1 x) (L - m+1)=min (1+CJ (ks.take (k+1))) (L+1):=by
     have:=hm.out
     have:=HT.out
     omega
    go_roundw
    case rel=>exact⟨k+1,m+min (D1 x) (L - m+1),hlt,by go_num,Tx.vint (by first | go_num | (unfold wrap64;omega)),J hm2,by omega,hb.trans (hb1.mono hb.size)⟩
    case measure=>simp[intOf];omega
   ·have hmm2:¬ ((m:Int)≤L):=by omega
    have HL:=J hle;clear hle
    have HT:=J hT;clear hT
    clear htk hx
    go_wp2
    go_ret
    exact⟨Tx.ret1 (by have:=hm.out;have:=HL.out;omega),hB.trans (hb.mono hB.size)⟩
  ·go_wp2
   go_ret
   have hkk:k=ks.length:=by omega
   subst hkk
   exact⟨Tx.ret1 (by have:=hm.out;rw[Ap]at this;omega),hB.trans (hb.mono hB.size)⟩
theorem r21_Depth_c (B:Nat):∀ (q:Qr.Qy) (cs:List Value) (w:World),Qr.QC B w q cs→D1 q≤1000000000 →
  Calls Tryz.prog 77 #[.agg cs.toArray] w fun e w'=>e=.returned (.int .i64 (H4 q))∧Below w.heap.size w w':=by
 refine Qr.Qy.ind ?_
 intro op fl ws ya yb ks ih cs w h hn
 obtain⟨sa,sc,ka,kc,rfl,_,_,hK⟩:=h.kids
 dsimp only[Qr.Qy.op,Qr.Qy.fld,Qr.Qy.a,Qr.Qy.b,Qr.Qy.ks,Qr.Qy.ws]at hK ⊢
 have IH:=J ih;clear ih
 obtain⟨W,hW⟩:∃ W,w.alloc (.cells #[.int .i64 op,.int .i64 fl,.slice sa ws.length sc,.int .i64 ya,.int .i64 yb,.slice ka ks.length kc] 29)=W:=⟨_,rfl⟩
 have hB:Below w.heap.size w W:=by rw[← hW];exact Tx.newb _ _
 have c0:W.cell? ⟨w.heap.size,0,A4⟩=A2 (.int .i64 op):=by rw[← hW];simp
 have c1:W.cell? ⟨w.heap.size,1,A4⟩=A2 (.int .i64 fl):=by rw[← hW];simp
 have c2:W.cell? ⟨w.heap.size,2,A4⟩=A2 (.slice sa ws.length sc):=by rw[← hW];simp
 have c3:W.cell? ⟨w.heap.size,3,A4⟩=A2 (.int .i64 ya):=by rw[← hW];simp
 have c4:W.cell? ⟨w.heap.size,4,A4⟩=A2 (.int .i64 yb):=by rw[← hW];simp
 have c5:W.cell? ⟨w.heap.size,5,A4⟩=A2 (.slice ka ks.length kc):=by rw[← hW];simp
 have hS:=hK.below hB
 have hmax:=hK.max
 have hmx:maxLen=9223372036854775807:=rfl
 have hdn:=Qr.depth_nodes (.mk op fl ws ya yb ks)
 unfold D1 at hn hdn
 unfold H4 at hdn ⊢
 go_enter Tryz.func77,Tryz.ntmps77
 go_wp2
 clear hW c0 c1 c2 c3 c4
 go_loopw [3,4] (fun n i wr=>∃ k:Nat,k≤ks.length∧i=.int .i64 k∧n=.int .i64 ((Es (ks.take k):Nat):Int)∧Below W.heap.size W wr) (fun _ i _=>ks.length - (intOf i).toNat)
 case atStart=>exact⟨0,Nat.zero_le _,rfl,rfl,Below.refl _ _⟩
 case round =>
  obtain⟨k,hk,rfl,rfl,hb⟩:=hrel
  have e5:=cell_later hb c5
  by_cases hlt:k<ks.length
  ·obtain⟨x,hx⟩:∃ x,ks[k]?=A2 x:=⟨_,A7 hlt⟩
   obtain⟨b,o,sa2,sc2,ka2,kc2,rfl,hbl,d0,d1,d2,d3,d4,d5,hq⟩:=(hS.below hb).get hx
   have hmem:=Ag hx
   have hxn:=Qr.nodes_kid hmem
   have htk:=Qr.take_snoc hx
   have hT:Es (ks.take (k+1))=max (Es (ks.take k)) (H4 x):=by rw[htk,J6];simp[Es]
   have hle:Es (ks.take (k+1))≤Es ks:=by
    have:=J6 (ks.take (k+1)) (ks.drop (k+1))
    rw[BJ]at this
    omega
   have HT:=J hT;clear hT
   have HM:=J hmem;clear hmem
   have HQ:=J hq;clear hq
   clear htk hx
   go_wp2_with (go_at_call 77;refine (IH.out x HM.out _ _ HQ.out (by omega)).mono ?_;rintro e w1 ⟨rfl,hb1⟩)
   have HT2:=HT.out
   go_roundw
   case rel=>exact⟨k+1,hlt,by go_num,Tx.vint (by rw[HT2];first | go_num | (unfold wrap64;omega)),hb.trans (hb1.mono hb.size)⟩
   case measure=>simp[intOf];omega
  ·go_wp2
   go_ret
   have hkk:k=ks.length:=by omega
   subst hkk
   exact⟨Tx.ret1 (by first | (rw[Ap];done) | (rw[Ap];unfold wrap64;omega)),hB.trans (hb.mono hB.size)⟩
end Go.Proofs.YtlakomilichhnaaGreatDoor
