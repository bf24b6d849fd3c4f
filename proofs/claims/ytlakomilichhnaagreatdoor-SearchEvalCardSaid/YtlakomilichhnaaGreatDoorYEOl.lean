/- Texts of this seat's, what the claim needs of them. -/
import Derived.Test.YtlakomilichhnaaGreatDoorZOl
import Derived.Test.YtlakomilichhnaaGreatDoorYEOt
namespace Go.Proofs.YtlakomilichhnaaGreatDoor
set_option maxHeartbeats 400000
set_option maxRecDepth 100000
open Go.RowKit
open Lib renaming hid→J,size_eq→Ak
open List renaming getElem?_map→AE
open Tx renaming rdec→Bv,valid→AL,valid_step→Gs
namespace Tx
theorem bcat (l:List UInt8) (y:ByteArray):(⟨l.toArray⟩:ByteArray)++y=⟨(l++y.data.toList).toArray⟩:=by
 apply ByteArray.ext
 simp
theorem extract_wid (s:ByteArray) (k n:Nat):(s.extract k (k+n)).data.toList=(s.data.toList.drop k).take n:=by
 rw[Lib.extract_data,Nat.add_sub_cancel_left]
theorem rdec_fits {s:ByteArray}{k:Nat} (h:k<s.size):k+(rdec (s.data.toList.drop k)).2≤s.size∧(rdec (s.data.toList.drop k)).2≤3∧1≤wid (s.data.toList.drop k)∧k+wid (s.data.toList.drop k)≤s.size∧wid (s.data.toList.drop k)≤3:=by
 have h1:=rdec_le (drop_ne (by rw[← Ak];exact h):s.data.toList.drop k≠[])
 have h2:=wid_le (drop_ne (by rw[← Ak];exact h):s.data.toList.drop k≠[])
 have h3:=rdec_width3 (s.data.toList.drop k)
 rw[List.length_drop,← Ak]at h1 h2
 refine⟨by omega,h3,wid_pos _,by omega,?_⟩
 unfold wid
 omega
end Tx
theorem r01_size_c (s:ByteArray) (i:Nat) (w:World) (hi:i<s.size) (hs:s.size≤9223372036854775000) :
  Calls Tryz.prog 245 #[.string s,.int .i64 i] w fun e w'=>e=.returned (.int .i64 (Tx.wid (s.data.toList.drop i)))∧Below w.heap.size w w':=by
 go_enter Tryz.func245,Tryz.ntmps245
 go_wp2_with (go_at_call 203;refine (r01_decode_c s i _ hi hs).mono ?_;rintro e w1 ⟨rfl,hb⟩)
 all_goals
  go_ret
  exact⟨Tx.ret1 (by unfold Tx.wid;omega),hb⟩
theorem r01_Valid_c (s:ByteArray) (w:World) (hs:s.size≤9223372036854775000) :
  Calls Tryz.prog 122 #[.string s] w fun e w'=>e=.returned (.bool (AL s.data.toList))∧Below w.heap.size w w':=by
 go_enter Tryz.func122,Tryz.ntmps122
 go_wp2
 go_loopw [3] (fun i wr=>∃ k:Nat,k≤s.size∧i=.int .i64 k∧Hid (AL (s.data.toList.drop k)=AL s.data.toList)∧Below w.heap.size w wr) (fun i _=>s.size - (intOf i).toNat)
 case atStart=>exact⟨0,Nat.zero_le _,rfl,J (by rw[List.drop_zero]),Below.refl _ _⟩
 case round =>
  obtain⟨k,hk,rfl,hv,hb⟩:=hrel
  by_cases hlt:k<s.size
  ·obtain⟨hle,_,_,_,_⟩:=Tx.rdec_fits hlt
   have hne:s.data.toList.drop k≠[]:=Tx.drop_ne (by rw[← Ak];exact hlt)
   have HN:=J hne;clear hne
   go_wp2_with (go_at_call 203;refine (r01_decode_c s k _ hlt hs).mono ?_;rintro e w1 ⟨rfl,hb1⟩)
   ·go_ret
    have hz:(Bv (s.data.toList.drop k)).2=0:=by
     have h:=‹((Bv (s.data.toList.drop k)).2:Int) == 0›
     simpa using h
    exact⟨Tx.retb (by rw[← hv.out,Gs HN.out,if_pos hz]),hb.trans (hb1.mono hb.size)⟩
   ·have hz:(Bv (s.data.toList.drop k)).2≠0:=by
     have h:(((Bv (s.data.toList.drop k)).2:Int) == 0)=false:=by assumption
     simpa using h
    go_roundw
    case rel=>exact⟨k+(Bv (s.data.toList.drop k)).2,by omega,by go_num,J (by rw[← hv.out,Gs HN.out,if_neg hz,List.drop_drop]),hb.trans (hb1.mono hb.size)⟩
    case measure=>simp[intOf];omega
  ·go_wp2
   go_ret
   have:s.data.toList.drop k=[]:=List.drop_eq_nil_of_le (by rw[← Ak];omega)
   exact⟨Tx.retb (by rw[← hv.out,this];rfl),hb⟩
namespace Cs
structure LA {α:Type} (enc:α→Value) (w:World) (b o c:Nat) (xs:List α):Prop where
 cap:xs.length≤c
 max:c≤maxLen
 lt:b<w.heap.size
 at_:∀ (j:Nat) x,xs[j]?=some x→w.cell? ⟨b,o+j,none⟩=some (enc x)
theorem LA.below {α:Type}{enc:α→Value}{w w':World}{b o c:Nat}{xs:List α} (h:LA enc w b o c xs) (hb:Below w.heap.size w w'):LA enc w' b o c xs :=
 ⟨h.cap,h.max,Nat.lt_of_lt_of_le h.lt hb.size,fun j x hx=>cell_later hb (h.at_ j x hx)⟩
theorem LA.of_own {α:Type}{enc:α→Value}{w:World}{B e n g cap:Nat}{xs:List α} (h:w.ownsRow B e 1 (.slice (some ⟨g,0,none⟩) n cap) n (xs.map enc)) (hm:n=xs.length):LA enc w g 0 cap xs:=by
 subst hm
 refine⟨?_,?_,(h.lt g rfl).2,fun j x hx=>?_⟩
 ·rcases h.2 with⟨h0,_⟩ | ⟨g',cap',cur,h',_,_,h1,_⟩
  ·simp at h0
  ·simp only[Value.slice.injEq]at h'
   omega
 ·rcases h.2 with⟨h0,_⟩ | ⟨g',cap',cur,h',_,_,_,h1,_⟩
  ·simp at h0
  ·simp only[Value.slice.injEq]at h'
   omega
 ·have hj:j<xs.length:=(List.getElem?_eq_some_iff.1 hx).1
  rw[Nat.zero_add,h.cellAt j (by omega),AE,hx]
  rfl
theorem LA.cellsT {α:Type}{enc:α→Value}{w w':World}{b o c:Nat}{xs:List α} (h:LA enc w b o c xs) (hb:Below w.heap.size w w') (k:Nat):∀ j u,((xs.take k).map enc)[j]?=some u→w'.cell? ((⟨b,o,none⟩:Addr).add j)=some u:=by
 intro j u hj
 rw[AE,List.getElem?_take]at hj
 split at hj
 ·obtain⟨x,hx,rfl⟩:=Option.map_eq_some_iff.1 hj
  rw[add_at]
  exact cell_later hb (h.at_ j x hx)
 ·cases hj
theorem LA.cellsD {α:Type}{enc:α→Value}{w w':World}{b o c:Nat}{xs:List α} (h:LA enc w b o c xs) (hb:Below w.heap.size w w') (k:Nat):∀ j u,((xs.drop k).map enc)[j]?=some u→w'.cell? ((⟨b,o+k,none⟩:Addr).add j)=some u:=by
 intro j u hj
 rw[AE,List.getElem?_drop]at hj
 obtain⟨x,hx,rfl⟩:=Option.map_eq_some_iff.1 hj
 rw[add_at,Nat.add_assoc]
 exact cell_later hb (h.at_ (k+j) x hx)
end Cs
section
variable {P : Program} {w : World}
end
end Go.Proofs.YtlakomilichhnaaGreatDoor
