/- Texts of this seat's, what the claim needs of them. -/
import Derived.Test.YtlakomilichhnaaGreatDoorYXOe
import Derived.Test.YtlakomilichhnaaGreatDoorYXOr
import Derived.Test.YtlakomilichhnaaGreatDoorYXOc
namespace Go.Proofs.YtlakomilichhnaaGreatDoor
set_option maxHeartbeats 1600000
set_option maxRecDepth 100000
open Go.RowKit
open Lib renaming hid→J
open List renaming contains_iff_mem→ED,getD_eq_getElem?_getD→Bc,getElem?_eq_getElem→A7
namespace Rc
open Go.Lib
theorem has_none {codes:ByteArray}{x:UInt8} (h:∀ j,j<codes.size→codes.data.toList.getD j 0≠x):codes.data.toList.contains x=false:=by
 rw[Bool.eq_false_iff]
 intro h1
 rw[ED]at h1
 obtain⟨j,hj,e⟩:=List.mem_iff_getElem.1 h1
 refine h j (by rw[Lib.size_eq];exact hj) ?_
 rw[Bc,A7 hj]
 exact e
theorem has_some {codes:ByteArray}{x:UInt8}{j:Nat} (hj:j<codes.size) (h:codes.data.toList.getD j 0=x):hasCode codes.data.toList x=true:=by
 unfold hasCode
 rw[Bool.or_eq_true,ED]
 refine .inr ?_
 have hj2:j<codes.data.toList.length:=by rw[← Lib.size_eq];exact hj
 rw[← h,Bc,A7 hj2]
 exact List.getElem_mem _
theorem has_empty {codes:ByteArray}{x:UInt8} (h:codes.data.toList.contains x=false):hasCode codes.data.toList x=codes.toList.isEmpty:=by
 unfold hasCode
 rw[h,Bool.or_false,Lib.toList_data]
end Rc
theorem r07_in_c (x:UInt8) (codes:ByteArray) (w:World) (hs:codes.size≤9223372036854775000) :
  Calls Tryz.prog 213 #[.int .u8 x.toNat,.string codes] w fun e w'=>e=.returned (.bool (Rc.hasCode codes.data.toList x))∧w=w':=by
 go_enter Tryz.func213,Tryz.ntmps213
 go_wp2
 go_loop [5] (fun i=>∃ (k:Nat),k≤codes.size∧i=.int .i64 k∧Hid (∀ j,j<k→codes.data.toList.getD j 0≠x)) (fun i=>codes.size - (intOf i).toNat)
 case atStart=>exact⟨0,Nat.zero_le _,rfl,J (fun j hj=>absurd hj (by omega))⟩
 case round =>
  obtain⟨k,hk,rfl,hE⟩:=hrel
  by_cases hlt:k<codes.size
  ·obtain⟨y,hy⟩:∃ y,codes.data.toList.getD k 0=y:=⟨_,rfl⟩
   have e0:∀ h,codes[k]'h=y:=fun h=>by rw[← hy,Tx.getD_at codes k h]
   have hq:=Rc.u8_eq (a:=y) (b:=x)
   by_cases hyx:y=x
   ·have HH:=J (Rc.has_some hlt (hy.trans hyx))
    have hq2:(y == x)=true:=by simpa using hyx
    rw[hq2]at hq
    clear hy hyx hq2
    go_wp2
    go_ret
    exact⟨Tx.retb HH.out.symm,rfl⟩
   ·have hE2:Hid (∀ j,j<k+1→codes.data.toList.getD j 0≠x):=J (fun j hj=>by
     rcases Nat.lt_or_ge j k with h1 | h1
     ·exact hE.out j h1
     ·obtain rfl:j=k:=by omega
      rw[hy];exact hyx)
    have hq2:(y == x)=false:=by simpa using hyx
    rw[hq2]at hq
    clear hy hyx hq2
    go_wp2
    go_round
    case rel=>exact⟨k+1,by omega,by go_num,hE2⟩
    case measure=>simp[intOf];omega
  ·obtain rfl:k=codes.size:=by omega
   have HH:=J (Rc.has_empty (Rc.has_none hE.out))
   go_wp2
   go_ret
   exact⟨Tx.retb HH.out.symm,rfl⟩
theorem r07_All_c (f:Rc.Fl) (a:Option Addr) (c:Nat) (codes:ByteArray) (w:World) (h:Rc.SubA w a c f.subs) (hl:f.subs.length≤1000) (hs:codes.size≤1000) :
  Calls Tryz.prog 142 #[.agg #[.string f.tag,.string f.ind,.slice a f.subs.length c,.int .i64 f.auth],.string codes] w fun e w'=>∃ va vc,e=.returned (.slice va (Rc.allV f.subs codes.data.toList).length vc)∧SLA w' va vc (Rc.allV f.subs codes.data.toList)∧Below w.heap.size w w':=by
 obtain⟨i0,hi0,hz0,hz1,hz2⟩:=info_parts info_str
 obtain⟨W,hW⟩:∃ W,w.alloc (.cells #[.string f.tag,.string f.ind,.slice a f.subs.length c,.int .i64 f.auth] 84)=W:=⟨_,rfl⟩
 have hB:Below w.heap.size w W:=by rw[← hW];exact Tx.newb _ _
 have c2:W.cell? ⟨w.heap.size,2,none⟩=some (.slice a f.subs.length c):=by rw[← hW];simp
 have hS:=h.below hB
 have hcap:=h.cap
 go_enter Tryz.func142,Tryz.ntmps142
 go_wp2
 clear hW
 go_loopw [5,6] (fun v i wr=>∃ (k:Nat) (L:List ByteArray),k≤f.subs.length∧i=.int .i64 k∧Hid (L=Rc.allV (f.subs.take k) codes.data.toList)∧L.length≤k∧wr.ownsRow W.heap.size 9 1 v L.length (L.map Value.string)∧Below W.heap.size W wr) (fun _ i _=>f.subs.length - (intOf i).toNat)
 case atStart=>exact⟨0,[],Nat.zero_le _,rfl,J rfl,Nat.le_refl _,World.ownsRow_nil _ _ _ _,Below.refl _ _⟩
 case round =>
  obtain⟨k,L,hk,rfl,hL,hLk,hown,hb⟩:=hrel
  have hbs:=hb.size
  have hbw:=Tx.step hB hb
  replace c2:=cell_later hb c2
  by_cases hlt:k<f.subs.length
  ·obtain⟨x,hx⟩:∃ x,f.subs[k]?=some x:=⟨_,A7 hlt⟩
   obtain⟨b,o,rfl,hbl,c0,c1⟩:=hS.get hx
   replace c0:=cell_later hb c0
   replace c1:=cell_later hb c1
   have hT:=Rc.allV_take codes.data.toList hx
   cases hH:Rc.hasCode codes.data.toList x.1 with
   | true =>
    rw[if_pos hH,← hL.out]at hT
    have HT:=J hT;clear hT
    have HH:=J hH;clear hH hx
    go_wp2_with (first
     |(go_at_call 213;refine (r07_in_c x.1 codes _ (by omega)).mono ?_;rintro e w1 ⟨rfl,rfl⟩;rw[HH.out])
     |(at_builtin;go_must (refine wpList_append_own _ rfl _ _ 26 rfl W.heap.size 9 i0 (.string ⟨#[]⟩) 1 16 Tryz.underlying26 hi0 hz0 hz1 hz2 rfl (by decide) _ L.length _ rfl (hown.alloc _) ⟨_,0,none⟩ 1 1 [.string x.2] rfl rfl (Tx.cell_one_at _ _ (by first | rfl | simp) _ _) (by simp[Value.oneCell']) (by unfold maxLen;omega) (by omega) (by simp;omega) ?_);intro v' w2 hown2 hg2 hnil2))
    have hb2:Below W.heap.size W w2:=(hb.alloc hbs _).grown hg2 (by simp;omega) (fun j hj=>(hown.lt j hj).1)
    go_roundw
    case rel=>exact⟨k+1,L++[x.2],by omega,by go_num,J HT.out.symm,by simp;omega,by simpa using hown2,hb2⟩
    case measure=>simp[intOf];omega
   | false =>
    rw[if_neg (by simp[hH]),List.append_nil,← hL.out]at hT
    have HT:=J hT;clear hT
    have HH:=J hH;clear hH hx
    go_wp2_with (go_at_call 213;refine (r07_in_c x.1 codes _ (by omega)).mono ?_;rintro e w1 ⟨rfl,rfl⟩;rw[HH.out])
    go_roundw
    case rel=>exact⟨k+1,L,by omega,by go_num,J HT.out.symm,by omega,hown,hb⟩
    case measure=>simp[intOf];omega
  ·obtain rfl:k=f.subs.length:=by omega
   have hL2:=hL.out
   rw[Rc.take_all]at hL2
   subst hL2
   obtain⟨va,vc,rfl,hsl⟩:=SLA.of_own hown rfl
   go_wp2
   go_ret
   exact⟨va,vc,rfl,hsl,hbw⟩
end Go.Proofs.YtlakomilichhnaaGreatDoor
