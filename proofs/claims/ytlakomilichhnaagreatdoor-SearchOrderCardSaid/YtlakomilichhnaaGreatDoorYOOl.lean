/- Texts of this seat's, what the claim needs of them. -/
import Derived.Test.YtlakomilichhnaaGreatDoorZOl
import Derived.Test.YtlakomilichhnaaGreatDoorYOOt
namespace Go.Proofs.YtlakomilichhnaaGreatDoor
set_option maxHeartbeats 800000
set_option maxRecDepth 100000
open Go.RowKit
open Lib renaming hid→J,size_eq→Ak
open List renaming drop_drop→BT,drop_eq_nil_of_le→AB,drop_zero→AM
open Tx renaming cleanStep→KD,rdec→Bv,retb→Ay,valid→AL,valid_step→Gs,wid→Ch
namespace Tx
theorem bcat (l:List UInt8) (y:ByteArray):(⟨l.toArray⟩:ByteArray)++y=⟨(l++y.data.toList).toArray⟩:=by
 apply ByteArray.ext
 simp
theorem extract_wid (s:ByteArray) (k n:Nat):(s.extract k (k+n)).data.toList=(s.data.toList.drop k).take n:=by
 rw[Lib.extract_data,Nat.add_sub_cancel_left]
theorem clean_round {s:ByteArray}{k:Nat}{out out':List UInt8}{gap gap':Bool} (hlt:k<s.size) (hol:out.length≤2*k)
  (hv:(foldT cleanStep (out,gap) (s.data.toList.drop k)).1=clean s.data.toList)
  (h:cleanStep (out,gap) ((s.data.toList.drop k).take (wid (s.data.toList.drop k))) (rdec (s.data.toList.drop k)).1=(out',gap')) :
  out'.length≤2*(k+wid (s.data.toList.drop k))∧(foldT cleanStep (out',gap') (s.data.toList.drop (k+wid (s.data.toList.drop k)))).1=clean s.data.toList:=by
 have hw:=wid_pos (s.data.toList.drop k)
 constructor
 ·have e:out'=(cleanStep (out,gap) ((s.data.toList.drop k).take (wid (s.data.toList.drop k))) (rdec (s.data.toList.drop k)).1).1:=by rw[h]
  rw[e]
  unfold cleanStep
  repeat' split
  all_goals simp only[List.length_append,List.length_take,List.length_cons,List.length_nil]
  all_goals omega
 ·rw[← hv,foldT_step cleanStep (out,gap) (drop_ne (by rw[← Ak];exact hlt)),h,BT]
theorem rdec_fits {s:ByteArray}{k:Nat} (h:k<s.size):k+(rdec (s.data.toList.drop k)).2≤s.size∧(rdec (s.data.toList.drop k)).2≤3∧1≤wid (s.data.toList.drop k)∧k+wid (s.data.toList.drop k)≤s.size∧wid (s.data.toList.drop k)≤3:=by
 have h1:=rdec_le (drop_ne (by rw[← Ak];exact h):s.data.toList.drop k≠[])
 have h2:=wid_le (drop_ne (by rw[← Ak];exact h):s.data.toList.drop k≠[])
 have h3:=rdec_width3 (s.data.toList.drop k)
 rw[List.length_drop,← Ak]at h1 h2
 refine⟨by omega,h3,wid_pos _,by omega,?_⟩
 unfold wid
 omega
end Tx
theorem r01_size_c (s:ByteArray) (i:Nat) (w:World) (hi:i<s.size) (hs:s.size≤9223372036854775000) :
  Calls Tryz.prog 245 #[.string s,.int .i64 i] w fun e w'=>e=.returned (.int .i64 (Ch (s.data.toList.drop i)))∧Below w.heap.size w w':=by
 go_enter Tryz.func245,Tryz.ntmps245
 go_wp2_with (go_at_call 203;refine (r01_decode_c s i _ hi hs).mono ?_;rintro e w1 ⟨rfl,hb⟩)
 all_goals
  go_ret
  exact⟨Tx.ret1 (by unfold Ch;omega),hb⟩
theorem r01_blank_c (c:Nat) (w:World) :
  Calls Tryz.prog 247 #[.int .i64 c] w fun e w'=>e=.returned (.bool (Tx.blank c))∧w=w':=by
 go_enter Tryz.func247,Tryz.ntmps247
 go_wp2
 ·go_ret
  rename_i h
  have h':c=32:=by omega
  exact⟨Ay (by subst h';rfl),rfl⟩
 ·go_ret
  rename_i h
  have e1:((c:Int) == 32)=(c == 32):=by rw[Bool.eq_iff_iff];simp;omega
  have e2:((c:Int) == 160)=(c == 160):=by rw[Bool.eq_iff_iff];simp;omega
  exact⟨Ay (by rw[e1,e2];rfl),rfl⟩
theorem r01_Valid_c (s:ByteArray) (w:World) (hs:s.size≤9223372036854775000) :
  Calls Tryz.prog 122 #[.string s] w fun e w'=>e=.returned (.bool (AL s.data.toList))∧Below w.heap.size w w':=by
 go_enter Tryz.func122,Tryz.ntmps122
 go_wp2
 go_loopw [3] (fun i wr=>∃ k:Nat,k≤s.size∧i=.int .i64 k∧Hid (AL (s.data.toList.drop k)=AL s.data.toList)∧Below w.heap.size w wr) (fun i _=>s.size - (intOf i).toNat)
 case atStart=>exact⟨0,Nat.zero_le _,rfl,J (by rw[AM]),Below.refl _ _⟩
 case round =>
  obtain⟨k,hk,rfl,hv,hb⟩:=hrel
  by_cases hlt:k<s.size
  ·obtain⟨hle,_,_,_,_⟩:=Tx.rdec_fits hlt
   have hne:s.data.toList.drop k≠[]:=Tx.drop_ne (by rw[← Ak];exact hlt)
   have HN:=J hne;clear hne
   go_wp2_with (go_at_call 203;refine (r01_decode_c s k _ hlt hs).mono ?_;rintro e w1 ⟨rfl,hb1⟩)
   ·go_ret
    have hz:(Bv (s.data.toList.drop k)).2=0:=by
     have h:=‹((Bv (s.data.toList.drop k)).2:Int) == 0›
     simpa using h
    exact⟨Ay (by rw[← hv.out,Gs HN.out,if_pos hz]),hb.trans (hb1.mono hb.size)⟩
   ·have hz:(Bv (s.data.toList.drop k)).2≠0:=by
     have h:(((Bv (s.data.toList.drop k)).2:Int) == 0)=false:=by assumption
     simpa using h
    go_roundw
    case rel=>exact⟨k+(Bv (s.data.toList.drop k)).2,by omega,by go_num,J (by rw[← hv.out,Gs HN.out,if_neg hz,BT]),hb.trans (hb1.mono hb.size)⟩
    case measure=>simp[intOf];omega
  ·go_wp2
   go_ret
   have:s.data.toList.drop k=[]:=AB (by rw[← Ak];omega)
   exact⟨Ay (by rw[← hv.out,this];rfl),hb⟩
theorem r01_Clean_c (s:ByteArray) (w:World) (hs:s.size≤1000000000000) :
  Calls Tryz.prog 190 #[.string s] w fun e w'=>e=.returned (.string ⟨(Tx.clean s.data.toList).toArray⟩)∧Below w.heap.size w w':=by
 go_enter Tryz.func190,Tryz.ntmps190
 go_wp2
 go_loopw [3,4,5] (fun o g i wr=>∃ (k:Nat) (out:List UInt8) (gap:Bool),k≤s.size∧i=.int .i64 k∧o=.string ⟨out.toArray⟩∧g=.bool gap∧out.length≤2*k∧Hid ((Tx.foldT KD (out,gap) (s.data.toList.drop k)).1=Tx.clean s.data.toList)∧Below w.heap.size w wr) (fun _ _ i _=>s.size - (intOf i).toNat)
 case atStart=>exact⟨0,[],false,Nat.zero_le _,rfl,rfl,rfl,Nat.zero_le _,J (by rw[AM];rfl),Below.refl _ _⟩
 case round =>
  obtain⟨k,out,gap,hk,rfl,rfl,rfl,hol,hv,hb⟩:=hrel
  by_cases hlt:k<s.size
  ·obtain⟨hle,h3,h4,h5,h6⟩:=Tx.rdec_fits hlt
   have hne:s.data.toList.drop k≠[]:=Tx.drop_ne (by rw[← Ak];exact hlt)
   have HN:=J hne;clear hne
   have hbl:∃ b,Tx.blank (Bv (s.data.toList.drop k)).1=b:=⟨_,rfl⟩
   obtain⟨b,hbl⟩:=hbl
   have HB:=J hbl;clear hbl
   go_wp2_with (first
    |(go_at_call 203;refine (r01_decode_c s k _ hlt (by omega)).mono ?_;rintro e w1 ⟨rfl,hb1⟩)
    |(go_at_call 245;refine (r01_size_c s k _ hlt (by omega)).mono ?_;rintro e w2 ⟨rfl,hb2⟩)
    |(go_at_call 247;refine (r01_blank_c _ _).mono ?_;rintro e w3 ⟨rfl,rfl⟩;rw[HB.out]))
   ·have hs1:=Tx.clean_round (out':=out) (gap':=true) hlt hol hv.out (by unfold KD;rw[HB.out,if_pos ‹_›])
    go_roundw
    case rel=>exact⟨k+Ch (s.data.toList.drop k),out,true,h5,by go_num,rfl,rfl,hs1.1,J hs1.2,(hb.trans (hb1.mono hb.size)).trans (hb2.mono (by have:=hb.size;have:=hb1.size;omega))⟩
    case measure=>simp[intOf];omega
   ·have hg:gap=true:=by assumption
    have ho:out≠[]:=by
     have h:(!out.isEmpty)=true:=by assumption
     simpa using h
    have hs1:=Tx.clean_round (out':=out++[32]++(s.data.toList.drop k).take (Ch (s.data.toList.drop k))) (gap':=false) hlt hol hv.out (by unfold KD;rw[HB.out,if_neg (by simp[*]),if_pos ⟨hg,ho⟩])
    go_roundw
    case rel=>exact⟨k+Ch (s.data.toList.drop k),_,false,h5,by go_num,by rw[Tx.bcat,Tx.bcat,Tx.extract_wid],rfl,hs1.1,J hs1.2,(hb.trans (hb1.mono hb.size)).trans (hb2.mono (by have:=hb.size;have:=hb1.size;omega))⟩
    case measure=>simp[intOf];omega
   ·have ho:out=[]:=by
     have h:(!out.isEmpty)=false:=by assumption
     simpa using h
    have hs1:=Tx.clean_round (out':=out++(s.data.toList.drop k).take (Ch (s.data.toList.drop k))) (gap':=false) hlt hol hv.out (by unfold KD;rw[HB.out,if_neg (by simp[*]),if_neg (fun h=>h.2 ho)])
    go_roundw
    case rel=>exact⟨k+Ch (s.data.toList.drop k),_,false,h5,by go_num,by rw[Tx.bcat,Tx.extract_wid],rfl,hs1.1,J hs1.2,(hb.trans (hb1.mono hb.size)).trans (hb2.mono (by have:=hb.size;have:=hb1.size;omega))⟩
    case measure=>simp[intOf];omega
   ·have hg:¬ gap=true:=by assumption
    have hs1:=Tx.clean_round (out':=out++(s.data.toList.drop k).take (Ch (s.data.toList.drop k))) (gap':=false) hlt hol hv.out (by unfold KD;rw[HB.out,if_neg (by simp[*]),if_neg (fun h=>hg h.1)])
    go_roundw
    case rel=>exact⟨k+Ch (s.data.toList.drop k),_,false,h5,by go_num,by rw[Tx.bcat,Tx.extract_wid],rfl,hs1.1,J hs1.2,(hb.trans (hb1.mono hb.size)).trans (hb2.mono (by have:=hb.size;have:=hb1.size;omega))⟩
    case measure=>simp[intOf];omega
  ·go_wp2
   go_ret
   have:s.data.toList.drop k=[]:=AB (by rw[← Ak];omega)
   exact⟨Tx.rets (by rw[← hv.out,this];rfl),hb⟩
def Tx.Adds (P:Program):ByteArray→List ByteArray→Prop
 | _,[]=>True
 | a,b::l=>(∀ W,(Op.stringOp .add a b).run P W=.ok (.string (a++b)) W)∧Tx.Adds P (a++b) l
theorem Tx.adds_ok (P:Program):∀ (l:List ByteArray) (a:ByteArray),a.size+(l.map (·.size)).sum≤9223372036854775807→Tx.Adds P a l
 | [],_,_=>trivial
 | b::l,a,h=>by
  rw[List.map_cons,List.sum_cons]at h
  exact⟨fun W=>run_string_add_sum W a b (by omega),Tx.adds_ok P l (a++b) (by rw[ByteArray.size_append];omega)⟩
section
variable {P : Program} {w : World}
end
theorem Tx.undrew {w w1:World} (h:Below w.drew.heap.size w.drew w1):Below w.heap.size w w1:=((Below.refl _ _).drew).trans h
end Go.Proofs.YtlakomilichhnaaGreatDoor
