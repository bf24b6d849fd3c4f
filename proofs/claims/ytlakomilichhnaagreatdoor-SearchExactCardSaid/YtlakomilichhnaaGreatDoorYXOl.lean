/- Texts of this seat's, what the claim needs of them. -/
import Derived.Test.YtlakomilichhnaaGreatDoorZOl
import Derived.Test.YtlakomilichhnaaGreatDoorYXOt
namespace Go.Proofs.YtlakomilichhnaaGreatDoor
set_option maxHeartbeats 400000
open Go.RowKit
open Lib renaming hid→J,size_eq→Ak
open Tx renaming rdec→Bv,valid→AL,valid_step→Gs
namespace Tx
theorem bcat (l:List UInt8) (y:ByteArray):(⟨l.toArray⟩:ByteArray)++y=⟨(l++y.data.toList).toArray⟩:=by
 apply ByteArray.ext
 simp
theorem extract_wid (s:ByteArray) (k n:Nat):(s.extract k (k+n)).data.toList=(s.data.toList.drop k).take n:=by
 rw[Lib.extract_data,Nat.add_sub_cancel_left]
theorem rdec_fits {s:ByteArray}{k:Nat} (h:k<s.size):k+(rdec (s.data.toList.drop k)).2≤s.size∧(rdec (s.data.toList.drop k)).2≤3∧1≤wid (s.data.toList.drop k)∧k+wid (s.data.toList.drop k)≤s.size∧wid (s.data.toList.drop k)≤3:=by
 have h1:=rdec_le (drop_ne (by rw[← Ak];exact h):s.data.toList.drop k≠[])
 have h2:=wid_le (drop_ne (by rw[← Ak];exact h):s.data.toList.drop k≠[])
 have h3:=rdec_width3 (s.data.toList.drop k)
 rw[List.length_drop,← Ak]at h1 h2
 refine⟨by omega,h3,wid_pos _,by omega,?_⟩
 unfold wid
 omega
end Tx
theorem r01_size_c (s:ByteArray) (i:Nat) (w:World) (hi:i<s.size) (hs:s.size≤9223372036854775000) :
  Calls Tryz.prog 245 #[.string s,.int .i64 i] w fun e w'=>e=.returned (.int .i64 (Tx.wid (s.data.toList.drop i)))∧Below w.heap.size w w':=by
 go_enter Tryz.func245,Tryz.ntmps245
 go_wp2_with (go_at_call 203;refine (r01_decode_c s i _ hi hs).mono ?_;rintro e w1 ⟨rfl,hb⟩)
 all_goals
  go_ret
  exact⟨Tx.ret1 (by unfold Tx.wid;omega),hb⟩
theorem r01_Valid_c (s:ByteArray) (w:World) (hs:s.size≤9223372036854775000) :
  Calls Tryz.prog 122 #[.string s] w fun e w'=>e=.returned (.bool (AL s.data.toList))∧Below w.heap.size w w':=by
 go_enter Tryz.func122,Tryz.ntmps122
 go_wp2
 go_loopw [3] (fun i wr=>∃ k:Nat,k≤s.size∧i=.int .i64 k∧Hid (AL (s.data.toList.drop k)=AL s.data.toList)∧Below w.heap.size w wr) (fun i _=>s.size - (intOf i).toNat)
 case atStart=>exact⟨0,Nat.zero_le _,rfl,J (by rw[List.drop_zero]),Below.refl _ _⟩
 case round =>
  obtain⟨k,hk,rfl,hv,hb⟩:=hrel
  by_cases hlt:k<s.size
  ·obtain⟨hle,_,_,_,_⟩:=Tx.rdec_fits hlt
   have hne:s.data.toList.drop k≠[]:=Tx.drop_ne (by rw[← Ak];exact hlt)
   have HN:=J hne;clear hne
   go_wp2_with (go_at_call 203;refine (r01_decode_c s k _ hlt hs).mono ?_;rintro e w1 ⟨rfl,hb1⟩)
   ·go_ret
    have hz:(Bv (s.data.toList.drop k)).2=0:=by
     have h:=‹((Bv (s.data.toList.drop k)).2:Int) == 0›
     simpa using h
    exact⟨Tx.retb (by rw[← hv.out,Gs HN.out,if_pos hz]),hb.trans (hb1.mono hb.size)⟩
   ·have hz:(Bv (s.data.toList.drop k)).2≠0:=by
     have h:(((Bv (s.data.toList.drop k)).2:Int) == 0)=false:=by assumption
     simpa using h
    go_roundw
    case rel=>exact⟨k+(Bv (s.data.toList.drop k)).2,by omega,by go_num,J (by rw[← hv.out,Gs HN.out,if_neg hz,List.drop_drop]),hb.trans (hb1.mono hb.size)⟩
    case measure=>simp[intOf];omega
  ·go_wp2
   go_ret
   have:s.data.toList.drop k=[]:=List.drop_eq_nil_of_le (by rw[← Ak];omega)
   exact⟨Tx.retb (by rw[← hv.out,this];rfl),hb⟩
end Go.Proofs.YtlakomilichhnaaGreatDoor
