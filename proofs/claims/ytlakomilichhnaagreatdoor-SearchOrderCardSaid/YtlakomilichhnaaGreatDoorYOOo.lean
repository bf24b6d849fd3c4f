/- Texts of this seat's, what the claim needs of them. -/
import Derived.Test.YtlakomilichhnaaGreatDoorZOo
import Derived.Test.YtlakomilichhnaaGreatDoorYOOh
import Derived.Test.YtlakomilichhnaaGreatDoorYOOp
namespace Go.Proofs.YtlakomilichhnaaGreatDoor
set_option maxHeartbeats 1600000
set_option maxRecDepth 100000
open Go.RowKit
open Lib renaming extract_data→E6,hid→J,size_eq→Ak,toList_data→AA
open List renaming any_eq_true→BM,dropWhile_cons→GQ,drop_eq_nil_iff→NL,drop_eq_nil_of_le→AB,drop_zero→AM,getElem?_eq_getElem→A7,length_take→Az,take_add_one→C8
open Nat renaming le_refl→An,zero_le→Ae
open Proofs.Tryz renaming func244→NJ,ntmps244→N8,prog→A3
open RowKit renaming Below→A6,intOf→Ad
open Sr renaming arts→Fz,str_eq→JW
open Tx renaming foldS→Do,newb→Aa,step→A8
open UInt8.toNat renaming inj→Lv
open Value renaming string→AW
theorem r02_articles_c (lang:ByteArray) (w:World) :
  Calls A3 244 #[.string lang] w fun e w'=>∃ a c,e=.returned (.slice a (Fz lang.data.toList).length c)∧SLA w' a c ((Fz lang.data.toList).map fun x=>(⟨x.toArray⟩:ByteArray))∧A6 w.heap.size w w':=by
 obtain⟨L,hL⟩:∃ L,lang.data.toList=L:=⟨_,rfl⟩
 have ee:=JW lang [101,110,103]
 have eg:=JW lang [103,101,114]
 have es:=JW lang [115,119,101]
 have ep:=JW lang [115,112,97]
 rw[hL]at ee eg es ep ⊢
 clear hL
 by_cases k0:L=[101,110,103]
 ·rw[decide_eq_true k0]at ee
  have hA:Fz L=[[116,104,101],[97],[97,110]]:=by unfold Fz;rw[if_pos k0]
  rw[hA]
  clear hA k0 eg es ep
  go_enter NJ,N8
  go_wp2
  go_ret
  exact⟨_,_,rfl,SLA.new (xs:=[(⟨([116,104,101]:List UInt8).toArray⟩:ByteArray),(⟨([97]:List UInt8).toArray⟩:ByteArray),(⟨([97,110]:List UInt8).toArray⟩:ByteArray)]) (cs:=#[AW ⟨([116,104,101]:List UInt8).toArray⟩,AW ⟨([97]:List UInt8).toArray⟩,AW ⟨([97,110]:List UInt8).toArray⟩]) (t:=9) rfl rfl (by decide),Aa _ _⟩
 ·rw[decide_eq_false k0]at ee
  by_cases k1:L=[103,101,114]
  ·rw[decide_eq_true k1]at eg
   have hA:Fz L=[[100,101,114],[100,105,101],[100,97,115],[101,105,110],[101,105,110,101]]:=by unfold Fz;rw[if_neg k0,if_pos k1]
   rw[hA]
   clear hA k0 k1 es ep
   go_enter NJ,N8
   go_wp2
   go_ret
   exact⟨_,_,rfl,SLA.new (xs:=[(⟨([100,101,114]:List UInt8).toArray⟩:ByteArray),(⟨([100,105,101]:List UInt8).toArray⟩:ByteArray),(⟨([100,97,115]:List UInt8).toArray⟩:ByteArray),(⟨([101,105,110]:List UInt8).toArray⟩:ByteArray),(⟨([101,105,110,101]:List UInt8).toArray⟩:ByteArray)]) (cs:=#[AW ⟨([100,101,114]:List UInt8).toArray⟩,AW ⟨([100,105,101]:List UInt8).toArray⟩,AW ⟨([100,97,115]:List UInt8).toArray⟩,AW ⟨([101,105,110]:List UInt8).toArray⟩,AW ⟨([101,105,110,101]:List UInt8).toArray⟩]) (t:=9) rfl rfl (by decide),Aa _ _⟩
  ·rw[decide_eq_false k1]at eg
   by_cases k2:L=[115,119,101]
   ·rw[decide_eq_true k2]at es
    have hA:Fz L=[[101,110],[101,116,116],[100,101,110],[100,101,116],[100,101]]:=by unfold Fz;rw[if_neg k0,if_neg k1,if_pos k2]
    rw[hA]
    clear hA k0 k1 k2 ep
    go_enter NJ,N8
    go_wp2
    go_ret
    exact⟨_,_,rfl,SLA.new (xs:=[(⟨([101,110]:List UInt8).toArray⟩:ByteArray),(⟨([101,116,116]:List UInt8).toArray⟩:ByteArray),(⟨([100,101,110]:List UInt8).toArray⟩:ByteArray),(⟨([100,101,116]:List UInt8).toArray⟩:ByteArray),(⟨([100,101]:List UInt8).toArray⟩:ByteArray)]) (cs:=#[AW ⟨([101,110]:List UInt8).toArray⟩,AW ⟨([101,116,116]:List UInt8).toArray⟩,AW ⟨([100,101,110]:List UInt8).toArray⟩,AW ⟨([100,101,116]:List UInt8).toArray⟩,AW ⟨([100,101]:List UInt8).toArray⟩]) (t:=9) rfl rfl (by decide),Aa _ _⟩
   ·rw[decide_eq_false k2]at es
    by_cases k3:L=[115,112,97]
    ·rw[decide_eq_true k3]at ep
     have hA:Fz L=[[101,108],[108,97],[108,111,115],[108,97,115],[117,110],[117,110,97]]:=by unfold Fz;rw[if_neg k0,if_neg k1,if_neg k2,if_pos k3]
     rw[hA]
     clear hA k0 k1 k2 k3
     go_enter NJ,N8
     go_wp2
     go_ret
     exact⟨_,_,rfl,SLA.new (xs:=[(⟨([101,108]:List UInt8).toArray⟩:ByteArray),(⟨([108,97]:List UInt8).toArray⟩:ByteArray),(⟨([108,111,115]:List UInt8).toArray⟩:ByteArray),(⟨([108,97,115]:List UInt8).toArray⟩:ByteArray),(⟨([117,110]:List UInt8).toArray⟩:ByteArray),(⟨([117,110,97]:List UInt8).toArray⟩:ByteArray)]) (cs:=#[AW ⟨([101,108]:List UInt8).toArray⟩,AW ⟨([108,97]:List UInt8).toArray⟩,AW ⟨([108,111,115]:List UInt8).toArray⟩,AW ⟨([108,97,115]:List UInt8).toArray⟩,AW ⟨([117,110]:List UInt8).toArray⟩,AW ⟨([117,110,97]:List UInt8).toArray⟩]) (t:=9) rfl rfl (by decide),Aa _ _⟩
    ·rw[decide_eq_false k3]at ep
     have hA:Fz L=[]:=by unfold Fz;rw[if_neg k0,if_neg k1,if_neg k2,if_neg k3]
     rw[hA]
     clear hA k0 k1 k2 k3
     go_enter NJ,N8
     go_wp2
     go_ret
     exact⟨_,_,rfl,⟨An _,Ae _,0,0,fun h=>absurd rfl h,fun j x hx=>by simp at hx⟩,Below.refl _ _⟩
namespace Sr
theorem arts_few (lang:By):(arts lang).length≤6:=by
 unfold arts
 repeat' split
 all_goals decide
theorem in_map (word:ByteArray) (l:List By):decide (word.data.toList∈l)=(l.map fun x=>(⟨x.toArray⟩:ByteArray)).any fun x=>x.toList == word.toList:=by
 rw[Bool.eq_iff_iff,decide_eq_true_eq,List.any_map,BM]
 constructor
 ·intro h
  exact⟨_,h,by show ((⟨_⟩:ByteArray).toList == _)=true;simp only[AA];simp⟩
 ·rintro⟨x,hx,h⟩
  have h2:((⟨x.toArray⟩:ByteArray).toList == word.toList)=true:=h
  simp only[AA,beq_iff_eq]at h2
  rw[← h2]
  exact hx
end Sr
theorem r02_Article_c (lang word:ByteArray) (w:World) :
  Calls A3 187 #[.string lang,.string word] w fun e w'=>e=.returned (.bool (decide (word.data.toList∈Fz lang.data.toList)))∧A6 w.heap.size w w':=by
 have AC:=r02_articles_c lang w
 have hlen:=Sr.arts_few lang.data.toList
 have hany:=Sr.in_map word (Fz lang.data.toList)
 obtain⟨xs,hxs⟩:∃ xs,(Fz lang.data.toList).map (fun x=>(⟨x.toArray⟩:ByteArray))=xs:=⟨_,rfl⟩
 have hxl:(Fz lang.data.toList).length=xs.length:=by rw[← hxs,List.length_map]
 rw[hxs,hxl]at AC
 rw[hxs]at hany
 rw[hxl]at hlen
 obtain⟨b,hb⟩:∃ b,decide (word.data.toList∈Fz lang.data.toList)=b:=⟨_,rfl⟩
 rw[hb]at hany ⊢
 have HA:=J AC
 have HB:=J hany
 clear AC hany hxs hxl hb
 go_enter Tryz.func187,Tryz.ntmps187
 go_wp2_with (go_at_call 244;((with_reducible refine HA.out.mono ?_);rintro e w1 ⟨a,c,rfl,hs1,hb1⟩;have HS:=J hs1))
 go_loop [6] (fun i=>∃ k:Nat,k≤xs.length∧i=.int .i64 k∧Hid ((xs.take k).any (fun x=>x.toList == word.toList)=false)) (fun i=>xs.length - (Ad i).toNat)
 case atStart=>exact⟨0,Ae _,by go_num,J (by rw[List.take_zero];rfl)⟩
 case round =>
  obtain⟨k,hk,rfl,hN⟩:=hrel
  by_cases hlt:k<xs.length
  ·obtain⟨x,hx⟩:∃ x,xs[k]?=some x:=⟨_,A7 hlt⟩
   obtain⟨bb,oo,rfl,hbl,hc⟩:=HS.out.get hx
   have htk:(xs.take (k+1)).any (fun x=>x.toList == word.toList)=(x.toList == word.toList):=by
    rw[C8,hx,List.any_append,hN.out]
    simp
   have hmem:x∈xs:=List.mem_of_getElem? hx
   cases ht:(x.toList == word.toList) with
   | true =>
    have hbt:b=true:=by rw[HB.out,BM];exact⟨x,hmem,ht⟩
    subst hbt
    clear htk hmem hx hs1
    go_wp2
    go_ret
    exact⟨rfl,hb1⟩
   | false =>
    rw[ht]at htk
    have HT:=J htk
    clear htk hmem hx hs1
    go_wp2
    go_round
    case rel=>exact⟨k+1,hlt,by go_num,HT⟩
    case measure=>simp[Ad];omega
  ·obtain rfl:k=xs.length:=by omega
   have hbf:b=false:=by rw[HB.out,← hN.out,List.take_length]
   subst hbf
   clear hs1
   go_wp2
   go_ret
   exact⟨rfl,hb1⟩
namespace Sr
def T1 (s:By) (n:Nat):Prop:=s.takeWhile (· != 32)=s.take n++(s.drop n).takeWhile (· != 32)∧s.dropWhile (· != 32)=(s.drop n).dropWhile (· != 32)
theorem T1.zero (s:By):T1 s 0:=⟨rfl,rfl⟩
theorem drop_at {s:By}{n:Nat}{c:UInt8} (h:s[n]?=some c):s.drop n=c::s.drop (n+1):=by
 obtain⟨hlt,e⟩:=List.getElem?_eq_some_iff.1 h
 rw[List.drop_eq_getElem_cons hlt,e]
theorem T1.step {s:By}{n:Nat}{c:UInt8} (h:T1 s n) (hc:s[n]?=some c) (hn:c≠32):T1 s (n+1):=by
 obtain⟨h1,h2⟩:=h
 have hb:(c != 32)=true:=bne_iff_ne.2 hn
 rw[drop_at hc,List.takeWhile_cons,if_pos hb]at h1
 rw[drop_at hc,GQ,if_pos hb]at h2
 refine⟨?_,h2⟩
 rw[h1,C8,hc,List.append_assoc]
 rfl
theorem T1.stop {s:By}{n:Nat} (h:T1 s n) (hc:s.length≤n∨s[n]?=some 32):s.takeWhile (· != 32)=s.take n∧s.dropWhile (· != 32)=s.drop n:=by
 obtain⟨h1,h2⟩:=h
 rcases hc with hc | hc
 ·rw[AB hc]at h1 h2
  rw[h1,h2,AB hc]
  exact⟨by simp,rfl⟩
 ·rw[h1,h2,drop_at hc]
  exact⟨by simp,by simp⟩
def T2 (s:By) (n:Nat):Prop:=(s.dropWhile (· != 32)).dropWhile (· == 32)=(s.drop n).dropWhile (· == 32)
theorem T2.step {s:By}{n:Nat} (h:T2 s n) (hc:s[n]?=some 32):T2 s (n+1):=by
 unfold T2 at *
 rw[drop_at hc,GQ,if_pos (show ((32:UInt8) == 32)=true from rfl)]at h
 exact h
theorem T2.stop {s:By}{n:Nat} (h:T2 s n) (hc:s.length≤n∨∃ c,s[n]?=some c∧c≠32):(s.dropWhile (· != 32)).dropWhile (· == 32)=s.drop n:=by
 unfold T2 at h
 rw[h]
 rcases hc with hc | ⟨c,hc,hn⟩
 ·rw[AB hc];rfl
 ·rw[drop_at hc,GQ,if_neg (by simpa using hn)]
theorem byte_get {s:ByteArray}{k:Nat} (h:k<s.size):s.data.toList[k]?=some (s[k]'h):=by
 have h':k<s.data.toList.length:=by rw[← Ak];exact h
 exact A7 h'
end Sr
theorem r02_Skip_c (lang s:ByteArray) (w:World) (hs:s.size≤1000000) :
  Calls A3 110 #[.string lang,.string s] w fun e w'=>e=.returned (.string ⟨(Sr.skip lang.data.toList s.data.toList).toArray⟩)∧A6 w.heap.size w w':=by
 have HE:=J (Ak s)
 obtain⟨K,hK⟩:∃ K:ByteArray,(⟨(Sr.skip lang.data.toList s.data.toList).toArray⟩:ByteArray)=K:=⟨_,rfl⟩
 have HK:=J hK
 rw[hK]
 clear hK
 have hself:∀ {x:Sr.By},s.data.toList=x→(⟨x.toArray⟩:ByteArray)=s:=fun {x} h=>by rw[← h]
 have HSF:=J (hself rfl)
 have hcut:∀ (n:Nat) {x:Sr.By},s.data.toList.drop n=x→(⟨x.toArray⟩:ByteArray)=s.extract n s.size:=fun n x h=>by
  apply ByteArray.ext;apply Array.toList_inj.1
  rw[E6,← h,Ak]
  show s.data.toList.drop n=_
  rw[List.take_of_length_le (by rw[List.length_drop];omega)]
 have HCUT:=J hcut
 clear hself hcut
 go_enter Tryz.func110,Tryz.ntmps110
 go_wp2
 go_loop [5] (fun n=>∃ k:Nat,k≤s.size∧n=.int .i64 k∧Hid (Sr.T1 s.data.toList k)) (fun n=>s.size - (Ad n).toNat)
 case atStart=>exact⟨0,Ae _,by go_num,J (Sr.T1.zero _)⟩
 case round =>
  obtain⟨k,hk,rfl,hT⟩:=hrel
  have behind:(s.size≤k∨s.data.toList[k]?=some 32)→Hid (s.data.toList.takeWhile (· != 32)=s.data.toList.take k∧s.data.toList.dropWhile (· != 32)=s.data.toList.drop k):=fun h=>J (hT.out.stop (by rw[← Ak];exact h))
  have HBH:=J behind
  clear behind
  by_cases hlt:k<s.size
  ·obtain⟨c,hc⟩:∃ c,s[k]'hlt=c:=⟨_,rfl⟩
   have hat:=Sr.byte_get hlt
   rw[hc]at hat
   have hcc:∀ h,s[k]'h=c:=fun _=>hc
   clear hc
   by_cases h32:c=32
   ·subst h32
    have HW:=HBH.out (.inr hat)
    clear hat hT
    have hF:s.extract 0 k=⟨(s.data.toList.takeWhile (· != 32)).toArray⟩:=by
     apply ByteArray.ext;apply Array.toList_inj.1
     rw[E6,HW.out.1,Nat.sub_zero,AM]
    have hFs:(s.extract 0 k).size≤1000000:=by rw[Ak,E6,Nat.sub_zero,AM,Az,← Ak];omega
    have hFC:∀ w',Calls A3 188 #[.string (s.extract 0 k)] w' fun e w''=>e=.returned (.string ⟨(Do (s.data.toList.takeWhile (· != 32))).toArray⟩)∧A6 w'.heap.size w' w'':=fun w'=>by
     have:=r01_Fold_c (s.extract 0 k) w' (by omega)
     rw[hF]at this
     rw[hF]
     exact this
    obtain⟨X,hX⟩:∃ X:ByteArray,(⟨(Do (s.data.toList.takeWhile (· != 32))).toArray⟩:ByteArray)=X:=⟨_,rfl⟩
    have hXd:Do (s.data.toList.takeWhile (· != 32))=X.data.toList:=by rw[← hX]
    rw[hX]at hFC
    have HFC:=J hFC
    have HKE:Hid (K=⟨(if X.data.toList∈Fz lang.data.toList∧(s.data.toList.dropWhile (· != 32)).dropWhile (· == 32)≠[] then (s.data.toList.dropWhile (· != 32)).dropWhile (· == 32) else s.data.toList).toArray⟩):=J (by rw[← HK.out,← hXd];rfl)
    by_cases hin:X.data.toList∈Fz lang.data.toList
    ·have AC:∀ w',Calls A3 187 #[.string lang,.string X] w' fun e w''=>e=.returned (.bool true)∧A6 w'.heap.size w' w'':=fun w'=>by
      have:=r02_Article_c lang X w'
      rw[decide_eq_true hin]at this
      exact this
     have HAC:=J AC
     have HIN:=J hin
     clear hF hFs hFC hX hXd AC hin
     go_wp2_with (first
      |(go_at_call 188;((with_reducible refine (HFC.out _).mono ?_);rintro e w1 ⟨rfl,hb1⟩))
      |(go_at_call 187;((with_reducible refine (HAC.out _).mono ?_);rintro e w2 ⟨rfl,hb2⟩)))
     have hb12:=A8 hb1 hb2
     go_loop [5] (fun n=>∃ j:Nat,j≤s.size∧n=.int .i64 j∧Hid (Sr.T2 s.data.toList j)) (fun n=>s.size - (Ad n).toNat)
     case atStart=>exact⟨k,hk,by go_num,J (by unfold Sr.T2;rw[HW.out.2])⟩
     case round =>
      obtain⟨j,hj,rfl,hT2⟩:=hrel
      by_cases hlt2:j<s.size
      ·obtain⟨d,hd⟩:∃ d,s[j]'hlt2=d:=⟨_,rfl⟩
       have hat2:=Sr.byte_get hlt2
       rw[hd]at hat2
       have hdd:∀ h,s[j]'h=d:=fun _=>hd
       clear hd
       by_cases g32:d=32
       ·subst g32
        have HN2:=J (hT2.out.step hat2)
        clear hat2 hT2
        go_wp2
        go_round
        case rel=>exact⟨j+1,hlt2,by go_num,HN2⟩
        case measure=>simp[Ad];omega
       ·have gne:((d.toNat:Int) == 32)=false:=beq_eq_false_iff_ne.2 (fun h9=>g32 (Lv (by show d.toNat=32;omega)))
        have HST:=J (hT2.out.stop (.inr ⟨d,hat2,g32⟩))
        have jne:((j:Int) == (s.size:Int))=false:=beq_eq_false_iff_ne.2 (by omega)
        have hdn:s.data.toList.drop j≠[]:=fun h9=>by have:=NL.1 h9;rw[← Ak]at this;omega
        have HKX:Hid (s.extract j s.size=K):=J (by rw[HKE.out,HST.out,if_pos ⟨HIN.out,hdn⟩];exact (HCUT.out j rfl).symm)
        clear hat2 hT2 g32 hdn
        go_wp2
        go_ret
        exact⟨by rw[← HKX.out];rfl,hb12⟩
      ·obtain rfl:j=s.size:=by omega
       have HST:=J (hT2.out.stop (.inl (by rw[← Ak];exact An _)))
       have hdn:s.data.toList.drop s.size=[]:=AB (by rw[← Ak];exact An _)
       have HKX:Hid (s=K):=J (by rw[HKE.out,HST.out,hdn,if_neg (fun h=>h.2 rfl)])
       clear hT2 hdn
       go_wp2
       go_ret
       exact⟨by rw[← HKX.out];rfl,hb12⟩
    ·have AC:∀ w',Calls A3 187 #[.string lang,.string X] w' fun e w''=>e=.returned (.bool false)∧A6 w'.heap.size w' w'':=fun w'=>by
      have:=r02_Article_c lang X w'
      rw[decide_eq_false hin]at this
      exact this
     have HAC:=J AC
     have HKX:Hid (s=K):=J (by rw[HKE.out,if_neg (fun h=>hin h.1)])
     clear hF hFs hFC hX hXd AC hin
     go_wp2_with (first
      |(go_at_call 188;((with_reducible refine (HFC.out _).mono ?_);rintro e w1 ⟨rfl,hb1⟩))
      |(go_at_call 187;((with_reducible refine (HAC.out _).mono ?_);rintro e w2 ⟨rfl,hb2⟩)))
     go_ret
     exact⟨by rw[← HKX.out];rfl,A8 hb1 hb2⟩
   ·have hne:((c.toNat:Int) != 32)=true:=bne_iff_ne.2 (fun h9=>h32 (Lv (by show c.toNat=32;omega)))
    have HN:=J (hT.out.step hat h32)
    clear hat h32 hT
    go_wp2
    go_round
    case rel=>exact⟨k+1,hlt,by go_num,HN⟩
    case measure=>simp[Ad];omega
  ·have HW:=HBH.out (.inl (by omega))
   clear hT
   have hF:s.extract 0 k=⟨(s.data.toList.takeWhile (· != 32)).toArray⟩:=by
    apply ByteArray.ext;apply Array.toList_inj.1
    rw[E6,HW.out.1,Nat.sub_zero,AM]
   have hFs:(s.extract 0 k).size≤1000000:=by rw[Ak,E6,Nat.sub_zero,AM,Az,← Ak];omega
   have hFC:∀ w',Calls A3 188 #[.string (s.extract 0 k)] w' fun e w''=>e=.returned (.string ⟨(Do (s.data.toList.takeWhile (· != 32))).toArray⟩)∧A6 w'.heap.size w' w'':=fun w'=>by
    have:=r01_Fold_c (s.extract 0 k) w' (by omega)
    rw[hF]at this
    rw[hF]
    exact this
   obtain⟨X,hX⟩:∃ X:ByteArray,(⟨(Do (s.data.toList.takeWhile (· != 32))).toArray⟩:ByteArray)=X:=⟨_,rfl⟩
   have hXd:Do (s.data.toList.takeWhile (· != 32))=X.data.toList:=by rw[← hX]
   rw[hX]at hFC
   have HFC:=J hFC
   have HKE:Hid (K=⟨(if X.data.toList∈Fz lang.data.toList∧(s.data.toList.dropWhile (· != 32)).dropWhile (· == 32)≠[] then (s.data.toList.dropWhile (· != 32)).dropWhile (· == 32) else s.data.toList).toArray⟩):=J (by rw[← HK.out,← hXd];rfl)
   by_cases hin:X.data.toList∈Fz lang.data.toList
   ·have AC:∀ w',Calls A3 187 #[.string lang,.string X] w' fun e w''=>e=.returned (.bool true)∧A6 w'.heap.size w' w'':=fun w'=>by
     have:=r02_Article_c lang X w'
     rw[decide_eq_true hin]at this
     exact this
    have HAC:=J AC
    have HIN:=J hin
    clear hF hFs hFC hX hXd AC hin
    go_wp2_with (first
     |(go_at_call 188;((with_reducible refine (HFC.out _).mono ?_);rintro e w1 ⟨rfl,hb1⟩))
     |(go_at_call 187;((with_reducible refine (HAC.out _).mono ?_);rintro e w2 ⟨rfl,hb2⟩)))
    have hb12:=A8 hb1 hb2
    go_loop [5] (fun n=>∃ j:Nat,j≤s.size∧n=.int .i64 j∧Hid (Sr.T2 s.data.toList j)) (fun n=>s.size - (Ad n).toNat)
    case atStart=>exact⟨k,hk,by go_num,J (by unfold Sr.T2;rw[HW.out.2])⟩
    case round =>
     obtain⟨j,hj,rfl,hT2⟩:=hrel
     by_cases hlt2:j<s.size
     ·obtain⟨d,hd⟩:∃ d,s[j]'hlt2=d:=⟨_,rfl⟩
      have hat2:=Sr.byte_get hlt2
      rw[hd]at hat2
      have hdd:∀ h,s[j]'h=d:=fun _=>hd
      clear hd
      by_cases g32:d=32
      ·subst g32
       have HN2:=J (hT2.out.step hat2)
       clear hat2 hT2
       go_wp2
       go_round
       case rel=>exact⟨j+1,hlt2,by go_num,HN2⟩
       case measure=>simp[Ad];omega
      ·have gne:((d.toNat:Int) == 32)=false:=beq_eq_false_iff_ne.2 (fun h9=>g32 (Lv (by show d.toNat=32;omega)))
       have HST:=J (hT2.out.stop (.inr ⟨d,hat2,g32⟩))
       have jne:((j:Int) == (s.size:Int))=false:=beq_eq_false_iff_ne.2 (by omega)
       have hdn:s.data.toList.drop j≠[]:=fun h9=>by have:=NL.1 h9;rw[← Ak]at this;omega
       have HKX:Hid (s.extract j s.size=K):=J (by rw[HKE.out,HST.out,if_pos ⟨HIN.out,hdn⟩];exact (HCUT.out j rfl).symm)
       clear hat2 hT2 g32 hdn
       go_wp2
       go_ret
       exact⟨by rw[← HKX.out];rfl,hb12⟩
     ·obtain rfl:j=s.size:=by omega
      have HST:=J (hT2.out.stop (.inl (by rw[← Ak];exact An _)))
      have hdn:s.data.toList.drop s.size=[]:=AB (by rw[← Ak];exact An _)
      have HKX:Hid (s=K):=J (by rw[HKE.out,HST.out,hdn,if_neg (fun h=>h.2 rfl)])
      clear hT2 hdn
      go_wp2
      go_ret
      exact⟨by rw[← HKX.out];rfl,hb12⟩
   ·have AC:∀ w',Calls A3 187 #[.string lang,.string X] w' fun e w''=>e=.returned (.bool false)∧A6 w'.heap.size w' w'':=fun w'=>by
     have:=r02_Article_c lang X w'
     rw[decide_eq_false hin]at this
     exact this
    have HAC:=J AC
    have HKX:Hid (s=K):=J (by rw[HKE.out,if_neg (fun h=>hin h.1)])
    clear hF hFs hFC hX hXd AC hin
    go_wp2_with (first
     |(go_at_call 188;((with_reducible refine (HFC.out _).mono ?_);rintro e w1 ⟨rfl,hb1⟩))
     |(go_at_call 187;((with_reducible refine (HAC.out _).mono ?_);rintro e w2 ⟨rfl,hb2⟩)))
    go_ret
    exact⟨by rw[← HKX.out];rfl,A8 hb1 hb2⟩
end Go.Proofs.YtlakomilichhnaaGreatDoor
