/- Texts of this seat's, what the claim needs of them. -/
import Derived.Test.YtlakomilichhnaaGreatDoorYXOm
import Derived.Test.YtlakomilichhnaaGreatDoorZPd
namespace Go.Proofs.YtlakomilichhnaaGreatDoor
set_option maxHeartbeats 1600000
set_option maxRecDepth 100000
open Go.RowKit
open Lib renaming hid→J
open List renaming any_eq_true→BM,getD_eq_getElem?_getD→Bc,getElem?_eq_getElem→A7,isPrefixOf_iff_prefix→Be,length_drop→AG,length_map→At,length_nil→BL,length_take→Az,map_cons→Cf,map_drop→I8,map_take→I7,mem_map→B3,mem_of_getElem?→Ag,mem_range→F8,take_length→Ap
open Nat renaming le_refl→An,not_lt_zero→FI
open Proofs.Tryz renaming prog→A3
open RowKit renaming Below→A6
namespace Sr
theorem map_eq {xs ys:List ByteArray}:xs.map (·.data.toList)=ys.map (·.data.toList)↔xs=ys:=by
 constructor
 ·intro h
  induction xs generalizing ys with
  | nil=>cases ys with
   | nil=>rfl
   | cons y ys=>cases h
  | cons x xs ih=>cases ys with
   | nil=>cases h
   | cons y ys =>
    rw[Cf,Cf,List.cons.injEq]at h
    have e:x=y:=by apply ByteArray.ext;apply Array.toList_inj.1;exact h.1
    rw[e,ih h.2]
 ·intro h;rw[h]
theorem stands_true {xs ys:List ByteArray}{k:Nat} (hn:ys≠[]) (h:(xs.drop k).take ys.length=ys):stands (xs.map (·.data.toList)) (ys.map (·.data.toList))=true:=by
 unfold stands
 rw[BM]
 have hk:k<xs.length:=by
  rcases Nat.lt_or_ge k xs.length with h1 | h1
  ·exact h1
  ·rw[List.drop_eq_nil_of_le h1,List.take_nil]at h
   exact absurd h.symm hn
 refine⟨k,F8.2 (by rw[At];exact hk),?_⟩
 rw[Be,← I8,← h,I7]
 exact List.take_prefix _ _
theorem stands_false {xs ys:List ByteArray} (h:∀ k,k+ys.length≤xs.length→(xs.drop k).take ys.length≠ys):stands (xs.map (·.data.toList)) (ys.map (·.data.toList))=false:=by
 rw[Bool.eq_false_iff]
 unfold stands
 rw[Ne,BM]
 rintro⟨k,hk,h1⟩
 have hk2:=F8.1 hk
 rw[At]at hk2
 rw[Be,← I8,List.prefix_iff_eq_take,At,← I7,map_eq]at h1
 have hl:=congrArg List.length h1
 rw[Az,AG]at hl
 exact h k (by omega) h1.symm
end Sr
theorem eqStr_c (xs ys:List ByteArray) (a b:Option Addr) (c d:Nat) (w:World) (hx:SLA w a c xs) (hy:SLA w b d ys) (hn:ys≠[]) (hne:xs≠[]) :
  Calls A3 136 #[.slice a xs.length c,.slice b ys.length d] w fun e w'=>e=.returned (.bool (decide (xs=ys)))∧A6 w.heap.size w w':=by
 obtain⟨b1,o1,h1,h2⟩:=hx.at_
 obtain⟨b2,o2,h3,h4⟩:=hy.at_
 obtain⟨rfl,_⟩:=h1 hne
 obtain⟨rfl,_⟩:=h3 hn
 have hm:maxLen=9223372036854775807:=rfl
 have e1:=hx.cap
 have e2:=hx.max
 have e3:=hy.cap
 have e4:=hy.max
 have hget:∀ (l:List ByteArray) j (h:j<l.length),l[j]?=some (l.getD j ByteArray.empty):=fun l j h=>by rw[Bc,A7 h];rfl
 refine (Tryz.slices_Equal_string b1 o1 xs.length c b2 o2 ys.length d xs ys w (An _) (An _) (by omega) (by omega) (fun j hj=>h2 j _ (hget xs j hj)) (fun j hj=>h4 j _ (hget ys j hj))).mono ?_
 rintro e w' ⟨he,n,rfl⟩
 rw[Ap,Ap]at he
 exact⟨he,Tx.below_drewN (Below.refl _ _) n⟩
theorem search_stands_c (xs ys:List ByteArray) (a b:Option Addr) (c d:Nat) (w:World) (hx:SLA w a c xs) (hy:SLA w b d ys) (hn:ys≠[]) (hl:xs.length≤1000000000000) (hm:ys.length≤1000000000000) :
  Calls A3 66 #[.slice a xs.length c,.slice b ys.length d] w fun e w'=>e=.returned (.bool (Sr.stands (xs.map (·.data.toList)) (ys.map (·.data.toList))))∧A6 w.heap.size w w':=by
 obtain⟨r,hr⟩:∃ r,Sr.stands (xs.map (·.data.toList)) (ys.map (·.data.toList))=r:=⟨_,rfl⟩
 rw[hr]
 have HR:=J hr
 have HX:=J hx
 have HY:=J hy
 have HN:=J hn
 have hcap:=hx.cap
 have hnl:0<ys.length:=List.length_pos_iff.2 hn
 clear hr hx hy hn
 go_enter Tryz.func66,Tryz.ntmps66
 go_wp2
 go_loopw [5] (fun i wr=>∃ k:Nat,i=.int .i64 k∧k≤xs.length∧Hid (∀ j,j<k→(xs.drop j).take ys.length≠ys)∧A6 w.heap.size w wr) (fun i _=>xs.length - (intOf i).toNat)
 case atStart=>exact⟨0,by go_num,Nat.zero_le _,J (fun j hj=>absurd hj (FI _)),Below.refl _ _⟩
 case round =>
  obtain⟨k,rfl,hk,hN,hb⟩:=hrel
  by_cases hlt:k+ys.length≤xs.length
  ·obtain⟨b1,o1,h1,h2⟩:=HX.out.at_
   have hne:xs≠[]:=by intro e;rw[e,BL]at hlt;omega
   obtain⟨rfl,hb1l⟩:=h1 hne
   have hSL:SLA wr (some ⟨b1,o1+k,none⟩) (c - k) ((xs.drop k).take ys.length):=by
    refine⟨by rw[Az,AG];omega,Nat.le_trans (Nat.sub_le _ _) HX.out.max,b1,o1+k,fun _=>⟨rfl,Nat.lt_of_lt_of_le hb1l hb.size⟩,fun j x hj=>?_⟩
    have hj2:j<ys.length:=by
     have:=(List.getElem?_eq_some_iff.1 hj).1
     rw[Az]at this
     omega
    rw[List.getElem?_take_of_lt hj2,List.getElem?_drop]at hj
    have:=cell_later hb (h2 (k+j) x hj)
    rwa [← Nat.add_assoc]at this
   have hlen:((xs.drop k).take ys.length).length=ys.length:=by rw[Az,AG];omega
   have EC:=eqStr_c ((xs.drop k).take ys.length) ys (some ⟨b1,o1+k,none⟩) b (c - k) d wr hSL (HY.out.below hb) HN.out (by intro e;rw[e,BL]at hlen;omega)
   rw[hlen]at EC
   have hck:¬ (c=k):=by omega
   have HE:=J EC
   clear EC hSL h1 h2 hne
   by_cases heq:(xs.drop k).take ys.length=ys
   ·have hrt:r=true:=by rw[← HR.out];exact Sr.stands_true HN.out heq
    subst hrt
    rw[decide_eq_true heq]at HE
    clear heq hlen
    go_wp2_with (go_at_call 136;((with_reducible refine HE.out.mono ?_);rintro e w1 ⟨rfl,hb1⟩))
    go_ret
    exact⟨rfl,Tx.step hb hb1⟩
   ·rw[decide_eq_false heq]at HE
    have HQ:=J heq
    clear heq hlen
    go_wp2_with (go_at_call 136;((with_reducible refine HE.out.mono ?_);rintro e w1 ⟨rfl,hb1⟩))
    go_roundw
    case rel=>exact⟨k+1,by go_num,by omega,J (fun j hj=>by
     rcases (by omega:j<k∨j=k) with h9 | h9
     ·exact hN.out j h9
     ·rw[h9];exact HQ.out),Tx.step hb hb1⟩
    case measure=>simp[intOf];omega
  ·have hrf:r=false:=by rw[← HR.out];exact Sr.stands_false (fun j hj=>hN.out j (by omega))
   subst hrf
   go_wp2
   go_ret
   exact⟨rfl,hb⟩
theorem sr_idx_c (g:Nat) (lb:Array Value) (eg:∀ args w,(callFunc g args).run A3 w=.ok (.enter g args) w) (p:ByteArray→Bool) (xs:List ByteArray) (a:Option Addr) (c:Nat) (w:World) (h:SLA w a c xs)
  (hp:∀ x∈xs,∀ w',A6 w.heap.size w w'→Calls A3 g (#[.string x]++lb) w' fun e w''=>e=.returned (.bool (p x))∧A6 w.heap.size w w'') :
  Calls A3 134 #[.slice a xs.length c,.func (.func g) #[] lb] w fun e w'=>∃ r:Int,e=.returned (.int .i64 r)∧(r=-1∧xs.any p=false∨(∃ k:Nat,r=k)∧xs.any p=true)∧A6 w.heap.size w w':=by
 have hml:maxLen=9223372036854775807:=rfl
 have hcap:=h.cap
 have hmax:=h.max
 have HS:=J h
 clear h
 go_enter Tryz.func134,Tryz.ntmps134
 go_wp2
 go_loopg [5,8] xs.length (fun gg _ s8 wr=>∃ k:Nat,k≤xs.length∧xs.length - k≤gg∧s8=.int .i64 k∧Hid (A6 w.heap.size w wr)∧Hid (∀ (j:Nat) (y:ByteArray),j<k→xs[j]?=some y→p y=false))
 case atStart=>exact⟨0,Nat.zero_le _,by omega,rfl,J (Below.refl _ _),J (fun j y h=>absurd h (FI _))⟩
 case round =>
  obtain⟨k,hk,hg,rfl,hb,hA⟩:=hrel
  by_cases hlt:k<xs.length
  ·obtain⟨x,hx⟩:∃ x,xs[k]?=some x:=⟨_,A7 hlt⟩
   obtain⟨b,o,rfl,hbl,hc⟩:=(HS.out.below hb.out).get hx
   have hcall:=J (hp x (Ag hx) wr hb.out)
   have HX:=J hx
   clear hp hx
   cases hq:p x with
   | true =>
    have HC:=hcall.out
    rw[hq]at HC
    have HQ:=J hq
    clear hcall hq
    go_wp2_with (go_at_fn g;refine HC.mono ?_;rintro e w2 ⟨rfl,hb2⟩)
    go_ret
    exact⟨_,rfl,.inr ⟨⟨k,rfl⟩,BM.2 ⟨x,Ag HX.out,HQ.out⟩⟩,hb2⟩
   | false =>
    have HC:=hcall.out
    rw[hq]at HC
    have HQ:=J hq
    clear hcall hq
    go_wp2_with (go_at_fn g;refine HC.mono ?_;rintro e w2 ⟨rfl,hb2⟩)
    go_roundg (xs.length - (k+1))
    case measure=>omega
    case rel =>
     refine⟨k+1,by omega,by omega,by go_num,J hb2,J (fun j y hj hy=>?_)⟩
     rcases (by omega:j<k∨j=k) with h1 | h1
     ·exact hA.out j y h1 hy
     ·subst h1
      rw[HX.out]at hy
      injection hy with hy
      rw[← hy];exact HQ.out
  ·obtain rfl:k=xs.length:=by omega
   clear hp
   go_wp2
   go_ret
   refine⟨_,rfl,.inl ⟨rfl,?_⟩,hb.out⟩
   rw[Bool.eq_false_iff,Ne,BM]
   rintro⟨x,hx,h1⟩
   obtain⟨j,hj,e⟩:=List.getElem_of_mem hx
   rw[hA.out j x hj (by rw[← e];exact A7 hj)]at h1
   cases h1
theorem sr_cont_c (g:Nat) (lb:Array Value) (eg:∀ args w,(callFunc g args).run A3 w=.ok (.enter g args) w) (p:ByteArray→Bool) (xs:List ByteArray) (a:Option Addr) (c:Nat) (w:World) (h:SLA w a c xs)
  (hp:∀ x∈xs,∀ w',A6 w.heap.size w w'→Calls A3 g (#[.string x]++lb) w' fun e w''=>e=.returned (.bool (p x))∧A6 w.heap.size w w'') :
  Calls A3 63 #[.slice a xs.length c,.func (.func g) #[] lb] w fun e w'=>e=.returned (.bool (xs.any p))∧A6 w.heap.size w w':=by
 have HI:=J (sr_idx_c g lb eg p xs a c w h hp)
 clear h hp eg
 cases hq:xs.any p with
 | true =>
  have HC:Hid (Calls A3 134 #[.slice a xs.length c,.func (.func g) #[] lb] w fun e w'=>∃ k:Nat,e=.returned (.int .i64 (k:Int))∧A6 w.heap.size w w'):=J (HI.out.mono fun e w' ⟨r,he,h1,h2⟩=>by
   rw[hq]at h1
   rcases h1 with⟨_,h1⟩ | ⟨⟨k,rfl⟩,_⟩
   ·cases h1
   ·exact⟨k,he,h2⟩)
  clear HI hq
  go_enter Tryz.func63,Tryz.ntmps63
  go_wp2_with (go_at_call 134;((with_reducible refine HC.out.mono ?_);rintro e w1 ⟨k,rfl,hb1⟩))
  go_ret
  exact⟨Tx.retb (by simp),hb1⟩
 | false =>
  have HC:Hid (Calls A3 134 #[.slice a xs.length c,.func (.func g) #[] lb] w fun e w'=>e=.returned (.int .i64 (-1))∧A6 w.heap.size w w'):=J (HI.out.mono fun e w' ⟨r,he,h1,h2⟩=>by
   rw[hq]at h1
   rcases h1 with⟨rfl,_⟩ | ⟨_,h1⟩
   ·exact⟨he,h2⟩
   ·cases h1)
  clear HI hq
  go_enter Tryz.func63,Tryz.ntmps63
  go_wp2_with (go_at_call 134;((with_reducible refine HC.out.mono ?_);rintro e w1 ⟨rfl,hb1⟩))
  go_ret
  exact⟨Tx.retb (by simp),hb1⟩
theorem containsS_c (xs:List ByteArray) (a:Option Addr) (c:Nat) (x:ByteArray) (w:World) (h:SLA w a c xs) :
  Calls A3 61 #[.slice a xs.length c,.string x] w fun e w'=>e=.returned (.bool (decide (x.data.toList∈xs.map (·.data.toList))))∧w'=w:=by
 have hml:maxLen=9223372036854775807:=rfl
 have hcap:=h.cap
 have hmax:=h.max
 have e:decide (x.data.toList∈xs.map (·.data.toList))=Lib.containsS xs x:=by
  rw[Bool.eq_iff_iff,decide_eq_true_eq,Lib.containsS_iff]
  constructor
  ·intro h1
   obtain⟨y,hy,e⟩:=B3.1 h1
   have:y=x:=by apply ByteArray.ext;apply Array.toList_inj.1;exact e
   subst this
   exact hy
  ·intro h1
   exact B3.2 ⟨x,h1,rfl⟩
 rw[e]
 by_cases hne:xs=[]
 ·subst hne
  exact Tryz.slices_Contains_string_empty a c x w
 ·obtain⟨b1,o1,h1,h2⟩:=h.at_
  obtain⟨rfl,_⟩:=h1 hne
  have hx:=Tryz.slices_Contains_string b1 o1 xs.length c xs x w (An _) (by omega) (fun j hj=>h2 j _ (by rw[Bc,A7 hj];rfl))
  rw[Ap]at hx
  exact hx
end Go.Proofs.YtlakomilichhnaaGreatDoor
