/- Texts of this seat's, what the claim needs of them. -/
import Derived.Test.YtlakomilichhnaaGreatDoorZOm
namespace Go.Proofs.YtlakomilichhnaaGreatDoor
set_option maxHeartbeats 3200000
set_option maxRecDepth 100000
open Go.RowKit
open Go renaming World→A9,cell_later→A0,maxLen→Au
open Lib renaming hid→J
open List renaming append_nil→AD,drop_eq_nil_of_le→AB,getElem?_eq_getElem→A7,getElem?_eq_some_iff→Ai,length_drop→AG,length_take→Az,take_length→Ap,take_of_length_le→E1
open Option renaming none→A4,some→A2
open Proofs.Tryz renaming prog→A3,underlying35→Bl
open World renaming ownsRow_lit→Fs,ownsRow_nil→AH
namespace Sr
def yrB (y a b:Int):Bool:=!decide (y=0)&&(decide (a≤y)&&decide (y≤b))
structure RQ (w W:A9) (Y:Nat) (id ver kind:Int) (lang:ByteArray) (v:Value) (q0 q1 q2 q3 q4 q5:Value):Prop where
 b:Below w.heap.size w W
 r0:W.cell? ⟨Y,0,A4⟩=A2 (.int .i64 id)
 r1:W.cell? ⟨Y,1,A4⟩=A2 (.int .i64 ver)
 r2:W.cell? ⟨Y,2,A4⟩=A2 (.int .i64 kind)
 r3:W.cell? ⟨Y,3,A4⟩=A2 (.string lang)
 r4:W.cell? ⟨Y,4,A4⟩=A2 v
 q0:W.cell? ⟨Y+1,0,A4⟩=A2 q0
 q1:W.cell? ⟨Y+1,1,A4⟩=A2 q1
 q2:W.cell? ⟨Y+1,2,A4⟩=A2 q2
 q3:W.cell? ⟨Y+1,3,A4⟩=A2 q3
 q4:W.cell? ⟨Y+1,4,A4⟩=A2 q4
 q5:W.cell? ⟨Y+1,5,A4⟩=A2 q5
theorem RQ.new (w:A9) (id ver kind:Int) (lang:ByteArray) (v:Value) (q0 q1 q2 q3 q4 q5:Value) (t u:TypeId) :
  RQ w ((w.alloc (.cells #[.int .i64 id,.int .i64 ver,.int .i64 kind,.string lang,v] t)).alloc (.cells #[q0,q1,q2,q3,q4,q5] u)) w.heap.size id ver kind lang v q0 q1 q2 q3 q4 q5 :=
 ⟨(Tx.newb _ _).alloc (Tx.newb w _).size _,by simp,by simp,by simp,by simp,by simp,by simp,by simp,by simp,by simp,by simp,by simp⟩
end Sr
theorem search_years_c (fs:List Rc.Fl) (a:Option Addr) (c:Nat) (id ver kind:Int) (lang:ByteArray) (op fl ya yb:Int) (v2 v5:Value) (w:A9) (h:Rc.FldA w a c fs) (hg:∀ f∈fs,Rc.Gd f) :
  Calls A3 67 #[.agg #[.int .i64 id,.int .i64 ver,.int .i64 kind,.string lang,.slice a fs.length c],.agg #[.int .i64 op,.int .i64 fl,v2,.int .i64 ya,.int .i64 yb,v5]] w fun e w'=>e=.returned (.bool (Sr.yrB (Rc.year fs) ya yb))∧Below w.heap.size w w':=by
 obtain⟨W,hW⟩:∃ W,(w.alloc (.cells #[.int .i64 id,.int .i64 ver,.int .i64 kind,.string lang,.slice a fs.length c] 51)).alloc (.cells #[.int .i64 op,.int .i64 fl,v2,.int .i64 ya,.int .i64 yb,v5] 29)=W:=⟨_,rfl⟩
 have hR:=Sr.RQ.new w id ver kind lang (.slice a fs.length c) (.int .i64 op) (.int .i64 fl) v2 (.int .i64 ya) (.int .i64 yb) v5 51 29
 rw[hW]at hR
 obtain⟨hB,c0,c1,c2,c3,c4,d0,d1,d2,d3,d4,d5⟩:=hR
 have YC:=record_Year_c fs a c id ver kind lang W (h.below hB) hg
 obtain⟨y,hy⟩:∃ y,Rc.year fs=y:=⟨_,rfl⟩
 rw[hy]at YC ⊢
 obtain⟨b,hb⟩:∃ b,Sr.yrB (y:Int) ya yb=b:=⟨_,rfl⟩
 rw[hb]
 unfold Sr.yrB at hb
 have HY:=J YC
 clear YC hy h hg
 by_cases h0:(y:Int)=0
 ·have hb2:b=false:=by rw[← hb,decide_eq_true h0];rfl
  have t0:((y:Int) != 0)=false:=by rw[h0];rfl
  subst hb2
  clear hb h0
  go_enter Tryz.func67,Tryz.ntmps67
  go_wp2_with (go_at_call 49;((with_reducible refine HY.out.mono ?_);rintro e w1 ⟨rfl,hb1⟩;have d3':=A0 hb1 d3;have d4':=A0 hb1 d4))
  go_ret
  exact⟨rfl,Tx.step hB hb1⟩
 ·have t0:((y:Int) != 0)=true:=bne_iff_ne.2 h0
  by_cases h1:ya≤(y:Int)
  ·have t1:(y:Int) ≥ ya:=h1
   by_cases h2:(y:Int)≤yb
   ·have hb2:b=true:=by rw[← hb,decide_eq_false h0,decide_eq_true h1,decide_eq_true h2];rfl
    subst hb2
    clear hb h0
    go_enter Tryz.func67,Tryz.ntmps67
    go_wp2_with (go_at_call 49;((with_reducible refine HY.out.mono ?_);rintro e w1 ⟨rfl,hb1⟩;have d3':=A0 hb1 d3;have d4':=A0 hb1 d4))
    go_ret
    exact⟨rfl,Tx.step hB hb1⟩
   ·have hb2:b=false:=by rw[← hb,decide_eq_false h0,decide_eq_true h1,decide_eq_false h2];rfl
    subst hb2
    clear hb h0
    go_enter Tryz.func67,Tryz.ntmps67
    go_wp2_with (go_at_call 49;((with_reducible refine HY.out.mono ?_);rintro e w1 ⟨rfl,hb1⟩;have d3':=A0 hb1 d3;have d4':=A0 hb1 d4))
    go_ret
    exact⟨Tx.retb (by first | rfl | simp[h2]),Tx.step hB hb1⟩
  ·have hb2:b=false:=by rw[← hb,decide_eq_false h0,decide_eq_false h1];rfl
   have t1:¬ (y:Int) ≥ ya:=h1
   subst hb2
   clear hb h0
   go_enter Tryz.func67,Tryz.ntmps67
   go_wp2_with (go_at_call 49;((with_reducible refine HY.out.mono ?_);rintro e w1 ⟨rfl,hb1⟩;have d3':=A0 hb1 d3;have d4':=A0 hb1 d4))
   go_ret
   exact⟨Tx.retb (by first | rfl | simp[h1]),Tx.step hB hb1⟩
theorem cloneI_c (xs:List Int) (a:Option Addr) (c:Nat) (w:A9) (h:Ix.IA w a c xs) (hl:xs.length≤1000000000000) :
  Calls A3 53 #[.slice a xs.length c] w fun e w'=>∃ v,e=.returned v∧Ix.OwnI w' w.heap.size v xs∧Below w.heap.size w w':=by
 cases xs with
 | nil =>
  cases a with
  | none =>
   refine (Tryz.slices_Clone_int_nil 0 c w).mono ?_
   rintro e w' ⟨rfl,rfl⟩
   exact⟨_,rfl,AH _ _ _ _,Below.refl _ _⟩
  | some ad =>
   refine (Tryz.slices_Clone_int_zero ad c w).mono ?_
   rintro e w' ⟨v,rfl,ho,_,hb⟩
   exact⟨v,rfl,ho,hb⟩
 | cons x r =>
  obtain⟨b,o,h1,h2⟩:=h.at_
  obtain⟨rfl,_⟩:=h1 (by simp)
  refine (Tryz.slices_Clone_int b o (x::r).length c (x::r) w (Nat.le_refl _) (by omega) (fun j hj=>?_)).mono ?_
  ·have:=h2 j 0 ((x::r).getD j 0) (.int .i64 ((x::r).getD j 0)) (by rw[List.getD_eq_getElem?_getD,A7 hj];rfl) rfl
   simpa using this
  ·rintro e w' ⟨v,rfl,ho,_,hb⟩
   rw[Ap]at ho
   exact⟨v,rfl,ho,hb⟩
namespace Sr
def pg (xs:List Int) (f N k:Nat):List Int:=((xs.take k).drop f).take N
theorem pg_len (xs:List Int) (f N k:Nat):(pg xs f N k).length≤k:=by
 unfold pg
 rw[Az,AG,Az]
 omega
theorem pg_succ {xs:List Int}{f N k:Nat}{y:Int} (h:xs[k]?=A2 y):pg xs f N (k+1)=pg xs f N k++(if f≤k∧(pg xs f N k).length<N then [y] else []):=by
 have hk:=(Ai.1 h).1
 have e:xs.take (k+1)=xs.take k++[y]:=by rw[List.take_add_one,h];rfl
 have hl:(xs.take k).length=k:=by rw[Az];omega
 unfold pg
 rw[e]
 by_cases hf:f≤k
 ·rw[List.drop_append_of_le_length (by omega),List.take_append]
  congr 1
  have hA:((xs.take k).drop f).length=k - f:=by rw[AG,hl]
  rw[hA,Az,hA]
  by_cases hN:k - f<N
  ·rw[if_pos ⟨hf,by omega⟩,E1 (by simp;omega)]
  ·rw[if_neg (by omega),show N - (k - f)=0 by omega]
   rfl
 ·rw[if_neg (fun h9=>hf h9.1),AD,AB (by rw[List.length_append,hl];simp;omega),AB (by omega)]
theorem pg_all (xs:List Int) (fr n:Int):pg xs fr.toNat n.toNat xs.length=page xs fr n:=by
 unfold pg page
 rw[Ap]
theorem page_cut {xs:List Int}{fr n:Int}{F M:Nat} (hF:min (max fr 0) (xs.length:Int)=(F:Int)) (hM:min (max n 0) ((xs.length:Int) - F)=(M:Int)):page xs fr n=(xs.drop F).take M:=by
 unfold page
 by_cases h:fr.toNat≤xs.length
 ·have e:fr.toNat=F:=by omega
  rw[e]
  by_cases h2:n.toNat≤xs.length - F
  ·have e2:n.toNat=M:=by omega
   rw[e2]
  ·have e2:M=xs.length - F:=by omega
   rw[e2,E1 (by rw[AG];omega),E1 (by rw[AG];omega)]
 ·have e:F=xs.length:=by omega
  rw[e,AB (Nat.le_refl _),AB (by omega)]
  simp
end Sr
theorem r22_Page_c (xs:List Int) (a:Option Addr) (c:Nat) (fr n:Int) (w:A9) (h:Ix.IA w a c xs) (hl:xs.length≤1000000) :
  Calls A3 20 #[.slice a xs.length c,.int .i64 fr,.int .i64 n] w fun e w'=>∃ v,e=.returned v∧Ix.OwnI w' w.heap.size v (Sr.page xs fr n)∧Below w.heap.size w w':=by
 obtain⟨i0,hi0,hz0,hz1,hz2⟩:=info_parts info_int
 have HI:=J hi0
 have HS:=J h
 have hcap:=h.cap
 have HP:=J (Sr.pg_all xs fr n)
 obtain⟨P,hP⟩:∃ P,Sr.page xs fr n=P:=⟨_,rfl⟩
 rw[hP]at HP ⊢
 obtain⟨f,hf⟩:∃ f,fr.toNat=f:=⟨_,rfl⟩
 obtain⟨N,hN⟩:∃ N,n.toNat=N:=⟨_,rfl⟩
 rw[hf,hN]at HP
 have hNn:∀ q:Nat,q<N↔(q:Int)<n:=fun q=>by omega
 have HNN:=J hNn
 clear hi0 h hP hN hNn
 rcases (by omega:(fr<0∧f=0)∨(¬ fr<0∧fr=(f:Int))) with⟨g1,g2⟩ | ⟨g1,g2⟩
 ·subst g2
  clear hf
  go_enter Tryz.func20,Tryz.ntmps20
  go_wp2
  go_loopw [7,8] (fun v i wr=>∃ (k:Nat),k≤xs.length∧i=.int .i64 k∧Ix.OwnI wr w.heap.size v (Sr.pg xs 0 N k)∧Below w.heap.size w wr) (fun _ i _=>xs.length - (intOf i).toNat)
  case atStart=>exact⟨0,Nat.zero_le _,rfl,by
   have e:Sr.pg xs 0 N 0=[]:=by unfold Sr.pg;simp
   rw[e]
   exact Fs (base:=w.heap.size) (e:=3) (size:=1) w #[] 0 (by simp) (by unfold Au;omega) rfl,Tx.newb _ _⟩
  case round =>
   obtain⟨k,hk,rfl,hown,hb⟩:=hrel
   have hbs:=hb.size
   have hpl:=Sr.pg_len xs 0 N k
   by_cases hlt:k<xs.length
   ·obtain⟨y,hy⟩:∃ y,xs[k]?=A2 y:=⟨_,A7 hlt⟩
    obtain⟨b,o,rfl,hbl,f0⟩:=Ix.IA.cell HS.out hy
    have e0:=A0 hb f0
    have hst:=Sr.pg_succ (f:=0) (N:=N) hy
    obtain⟨L,hL⟩:∃ L,Sr.pg xs 0 N k=L:=⟨_,rfl⟩
    rw[hL]at hst hown hpl
    have HOW:=J hown
    obtain⟨va,vc,rfl,hIA,_⟩:=Ix.IA.of_own HOW.out rfl
    clear hL hy hIA hown
    by_cases hfk:0≤k
    ·have hge:(k:Int) ≥ 0:=by omega
     by_cases hLN:L.length<N
     ·have hLn:=(HNN.out L.length).1 hLN
      rw[if_pos ⟨hfk,hLN⟩]at hst
      have HST:=J hst
      clear hst
      go_wp2_with (at_builtin;go_must (refine wpList_append_sl rfl _ _ 35 rfl w.heap.size 3 i0 _ 1 8 Bl HI.out hz0 hz1 hz2 rfl (by decide) _ (L.length) _ rfl (HOW.out.alloc _) (A2 ⟨_,0,A4⟩) 1 1 [.int .i64 y] rfl rfl (fun h9=>by cases h9) (fun ad had=>by cases had;exact Br.cells_new_at _ _ (by first | rfl | simp) _ _) (by simp[Value.oneCell']) (by unfold Au;omega) (by omega) (by simp;omega) ?_);intro v7 w7 hown7 hg7 hnil7)
      go_roundw
      case rel=>exact⟨k+1,hlt,by go_num,by rw[HST.out];exact Ix.ownI_snoc hown7,(hb.alloc hbs _).grown hg7 (by simp;omega) (fun j hj=>(HOW.out.lt j hj).1)⟩
      case measure=>simp[intOf];omega
     ·have hLn:¬ (L.length:Int)<n:=fun h9=>hLN ((HNN.out L.length).2 h9)
      rw[if_neg (fun h9=>hLN h9.2),AD]at hst
      have HST:=J hst
      clear hst
      go_wp2
      go_roundw
      case rel=>exact⟨k+1,hlt,by go_num,by rw[HST.out];exact HOW.out,hb⟩
      case measure=>simp[intOf];omega
    ·exact absurd (Nat.zero_le k) hfk
   ·obtain rfl:k=xs.length:=by omega
    rw[HP.out]at hown
    go_wp2
    go_ret
    exact⟨_,rfl,hown,hb⟩
 ·subst g2
  clear hf
  go_enter Tryz.func20,Tryz.ntmps20
  go_wp2
  go_loopw [7,8] (fun v i wr=>∃ (k:Nat),k≤xs.length∧i=.int .i64 k∧Ix.OwnI wr w.heap.size v (Sr.pg xs f N k)∧Below w.heap.size w wr) (fun _ i _=>xs.length - (intOf i).toNat)
  case atStart=>exact⟨0,Nat.zero_le _,rfl,by
   have e:Sr.pg xs f N 0=[]:=by unfold Sr.pg;simp
   rw[e]
   exact Fs (base:=w.heap.size) (e:=3) (size:=1) w #[] 0 (by simp) (by unfold Au;omega) rfl,Tx.newb _ _⟩
  case round =>
   obtain⟨k,hk,rfl,hown,hb⟩:=hrel
   have hbs:=hb.size
   have hpl:=Sr.pg_len xs f N k
   by_cases hlt:k<xs.length
   ·obtain⟨y,hy⟩:∃ y,xs[k]?=A2 y:=⟨_,A7 hlt⟩
    obtain⟨b,o,rfl,hbl,f0⟩:=Ix.IA.cell HS.out hy
    have e0:=A0 hb f0
    have hst:=Sr.pg_succ (f:=f) (N:=N) hy
    obtain⟨L,hL⟩:∃ L,Sr.pg xs f N k=L:=⟨_,rfl⟩
    rw[hL]at hst hown hpl
    have HOW:=J hown
    obtain⟨va,vc,rfl,hIA,_⟩:=Ix.IA.of_own HOW.out rfl
    clear hL hy hIA hown
    by_cases hfk:f≤k
    ·have hge:(k:Int) ≥ (f:Int):=by omega
     by_cases hLN:L.length<N
     ·have hLn:=(HNN.out L.length).1 hLN
      rw[if_pos ⟨hfk,hLN⟩]at hst
      have HST:=J hst
      clear hst
      go_wp2_with (at_builtin;go_must (refine wpList_append_sl rfl _ _ 35 rfl w.heap.size 3 i0 _ 1 8 Bl HI.out hz0 hz1 hz2 rfl (by decide) _ (L.length) _ rfl (HOW.out.alloc _) (A2 ⟨_,0,A4⟩) 1 1 [.int .i64 y] rfl rfl (fun h9=>by cases h9) (fun ad had=>by cases had;exact Br.cells_new_at _ _ (by first | rfl | simp) _ _) (by simp[Value.oneCell']) (by unfold Au;omega) (by omega) (by simp;omega) ?_);intro v7 w7 hown7 hg7 hnil7)
      go_roundw
      case rel=>exact⟨k+1,hlt,by go_num,by rw[HST.out];exact Ix.ownI_snoc hown7,(hb.alloc hbs _).grown hg7 (by simp;omega) (fun j hj=>(HOW.out.lt j hj).1)⟩
      case measure=>simp[intOf];omega
     ·have hLn:¬ (L.length:Int)<n:=fun h9=>hLN ((HNN.out L.length).2 h9)
      rw[if_neg (fun h9=>hLN h9.2),AD]at hst
      have HST:=J hst
      clear hst
      go_wp2
      go_roundw
      case rel=>exact⟨k+1,hlt,by go_num,by rw[HST.out];exact HOW.out,hb⟩
      case measure=>simp[intOf];omega
    ·have hge:¬ (k:Int) ≥ (f:Int):=by omega
     rw[if_neg (fun h9=>hfk h9.1),AD]at hst
     have HST:=J hst
     clear hst
     go_wp2
     go_roundw
     case rel=>exact⟨k+1,hlt,by go_num,by rw[HST.out];exact HOW.out,hb⟩
     case measure=>simp[intOf];omega
   ·obtain rfl:k=xs.length:=by omega
    rw[HP.out]at hown
    go_wp2
    go_ret
    exact⟨_,rfl,hown,hb⟩
theorem page_zero_c (ad:Addr) (c:Nat) (w:A9):Calls A3 53 #[.slice (A2 ad) 0 c] w fun e w'=>∃ v,e=.returned v∧Ix.OwnI w' w.heap.size v []∧Below w.heap.size w w':=by
 refine (Tryz.slices_Clone_int_zero ad c w).mono ?_
 rintro e w' ⟨v,rfl,ho,_,hb⟩
 exact⟨v,rfl,ho,hb⟩
theorem search_Page_c (xs:List Int) (a:Option Addr) (c:Nat) (fr n:Int) (w:A9) (h:Ix.IA w a c xs) (hl:xs.length≤1000000) :
  Calls A3 19 #[.slice a xs.length c,.int .i64 fr,.int .i64 n] w fun e w'=>∃ v,e=.returned v∧Ix.OwnI w' w.heap.size v (Sr.page xs fr n)∧Below w.heap.size w w':=by
 obtain⟨F,hF⟩:∃ F:Nat,min (max fr 0) (xs.length:Int)=(F:Int):=⟨(min (max fr 0) (xs.length:Int)).toNat,by omega⟩
 obtain⟨M,hM⟩:∃ M:Nat,min (max n 0) ((xs.length:Int) - F)=(M:Int):=⟨(min (max n 0) ((xs.length:Int) - F)).toNat,by omega⟩
 have hFl:F≤xs.length:=by omega
 have hMl:F+M≤xs.length:=by omega
 rw[Sr.page_cut hF hM]
 have hcap:=h.cap
 have hmax:=h.max
 unfold Au at hmax
 by_cases hM0:M=0
 ·subst hM0
  rw[List.take_zero]
  cases a with
  | none =>
   have hx:=h.none rfl
   obtain rfl:F=0:=by omega
   have ZC:=fun n c W=>Tryz.slices_Clone_int_nil n c W
   have HZ:=J ZC
   clear ZC h
   go_enter Tryz.func19,Tryz.ntmps19
   go_wp2_with (go_at_call 53;((with_reducible refine (HZ.out _ _ _).mono ?_);rintro e w1 ⟨rfl,rfl⟩))
   go_ret
   exact⟨_,rfl,AH _ _ _ _,Below.refl _ _⟩
  | some ad =>
   have ZC:=fun ad c W=>page_zero_c ad c W
   have HZ:=J ZC
   clear ZC h
   by_cases hcF:c=F
   all_goals
    go_enter Tryz.func19,Tryz.ntmps19
    go_wp2_with (go_at_call 53;((with_reducible refine (HZ.out _ _ _).mono ?_);rintro e w1 ⟨v,rfl,ho,hb⟩))
    go_ret
    exact⟨v,rfl,ho,hb⟩
 ·obtain⟨b,o,h1,h2⟩:=h.at_
  have hne:xs≠[]:=by intro e;rw[e,List.length_nil]at hMl;omega
  obtain⟨rfl,hbl⟩:=h1 hne
  have hIA:Ix.IA w (A2 ⟨b,o+F,A4⟩) (c - F) ((xs.drop F).take M):=by
   refine⟨by rw[Az,AG];omega,by unfold Au;omega,b,o+F,fun _=>⟨rfl,hbl⟩,fun j i x u hx hu=>?_⟩
   have hjM:j<M:=by
    have:=(Ai.1 hx).1
    rw[Az]at this
    omega
   rw[List.getElem?_take_of_lt hjM,List.getElem?_drop]at hx
   have:=h2 (F+j) i x u hx hu
   rw[Nat.mul_one]at this ⊢
   rwa [← Nat.add_assoc]at this
  have hlen:((xs.drop F).take M).length=M:=by rw[Az,AG];omega
  have CC:=cloneI_c ((xs.drop F).take M) (A2 ⟨b,o+F,A4⟩) (c - F) w hIA (by rw[hlen];omega)
  rw[hlen]at CC
  have hcF:¬ c=F:=by omega
  obtain⟨Y,hY⟩:∃ Y,(xs.drop F).take M=Y:=⟨_,rfl⟩
  rw[hY]at CC ⊢
  have HC:=J CC
  clear CC hIA hlen hY h1 h2 h hne
  go_enter Tryz.func19,Tryz.ntmps19
  go_wp2_with (go_at_call 53;((with_reducible refine HC.out.mono ?_);rintro e w1 ⟨v,rfl,ho,hb⟩))
  go_ret
  exact⟨v,rfl,ho,hb⟩
end Go.Proofs.YtlakomilichhnaaGreatDoor
