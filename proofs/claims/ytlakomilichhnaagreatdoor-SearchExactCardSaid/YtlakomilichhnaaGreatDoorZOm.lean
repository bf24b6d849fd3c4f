/- Texts of this seat's, what the claim needs of them. -/
import Derived.Test.YtlakomilichhnaaGreatDoorZOj
import Derived.Test.YtlakomilichhnaaGreatDoorZShelfB
import Derived.Laws.IdiomCopy
import Derived.Shelf.SlicesQ.Load
import Derived.Shelf.RegionOpenPlain
import Derived.Shelf.SlSortCmp.NoneTotal
namespace Go.Proofs.YtlakomilichhnaaGreatDoor
set_option maxHeartbeats 4000000
set_option maxRecDepth 1000000
open Go.RowKit
open Bool renaming and_eq_true→Bz,eq_false_iff→Bq,or_eq_true→Fe
open Cp renaming ltB→F1
open Go renaming Calls→Ac,TypeId→Bd,Value→Ah,World→A9,loadCellsFrom→JU
open Lib renaming compareInt→ER,hid→J
open List renaming append_assoc→B0,dropLast_concat_getLast→It,eq_nil_of_length_eq_zero→Aw,getElem?_append_right→CS,getElem?_eq_getElem→A7,getElem?_eq_some_iff→Ai,getElem?_set_ne→Jj,length_take→Az,mem_cons→B9,mem_of_getElem?→Ag,pairwise_append→NW,pairwise_map→I0
open Nat renaming add_zero→Bs,le_refl→An,mul_le_mul_right→Jk,sub_self→IL,succ_mul→Hv,zero_add→D9
open Option renaming none→A4,some→A2
open Or renaming inl→F2,inr→G9
open Proofs.Tryz renaming prog→A3
open Qr renaming Fr→Co
open Rc renaming RT→JV,encR→BA
open RowKit renaming Below→A6
open RowKit.Below renaming refl→Ab
open Sem renaming run→Mu
namespace Qr
end Qr
namespace Rc
end Rc
namespace Sr
open Rc hiding bys
open Qr
def yearsB (fs:List Fl) (q:Qy):Bool:=!decide ((year fs:Int)=0)&&(decide (q.a≤(year fs:Int))&&decide ((year fs:Int)≤q.b))
mutual
def ev (lf:Qy→Bool):Qy→Bool
 | .mk o f ws a b ks=>if o=5 then evAll lf ks else if o=6 then evAny lf ks else if o=7 then evNot lf ks else lf (.mk o f ws a b ks)
def evAll (lf:Qy→Bool):List Qy→Bool
 | []=>true
 | k::r=>ev lf k&&evAll lf r
def evAny (lf:Qy→Bool):List Qy→Bool
 | []=>false
 | k::r=>ev lf k||evAny lf r
def evNot (lf:Qy→Bool):List Qy→Bool
 | []=>false
 | k::r=>ev lf k&&!evAny lf r
end
theorem evAll_eq (lf:Qy→Bool):∀ ks,evAll lf ks=ks.all (ev lf)
 | []=>rfl
 | k::r=>by rw[evAll,evAll_eq lf r];rfl
theorem evAny_eq (lf:Qy→Bool):∀ ks,evAny lf ks=ks.any (ev lf)
 | []=>rfl
 | k::r=>by rw[evAny,evAny_eq lf r];rfl
def leafX (x:List Ix.Post) (r:Rd) (q:Qy):Bool :=
 if q.op=4 then yearsB r.fields q
 else if q.op=1 then decide (r.id∈Ix.word x q.fld ((bys q.ws).headD []))
 else if q.op=2 then decide (r.id∈Ix.prefix_ x q.fld ((bys q.ws).headD []))
 else decide (r.id∈Ix.phrase x q.fld (bys q.ws))
def evalQ (x:List Ix.Post) (l:List Rd) (q:Qy):List Int:=Cp.puts Cp.ltI ((l.filter fun r=>ev (leafX x r) q).map (·.id))
def page (ids:List Int) (fr n:Int):List Int:=(ids.drop fr.toNat).take n.toNat
abbrev V:=By × By × Int × Int
def vals (by_:Int) (lang:By) (r:Rd):V :=
 if by_=1 then (key lang (skip r.lang.data.toList (title r.fields)),skip r.lang.data.toList (title r.fields),0,r.id)
 else if by_=2 then (key lang (author r.fields),author r.fields,0,r.id)
 else if by_=3 then ([],[],-(year r.fields:Int),r.id)
 else ([],[],0,r.id)
def ltV (x y:V):Bool:=F1 x.1 y.1||(decide (x.1=y.1)&&(F1 x.2.1 y.2.1||(decide (x.2.1=y.2.1)&&(decide (x.2.2.1<y.2.2.1)||(decide (x.2.2.1=y.2.2.1)&&decide (x.2.2.2<y.2.2.2))))))
theorem ordV:Cp.Ord ltV:=by
 refine⟨fun x=>?_,fun {x y z} h1 h2=>?_,fun {x y} h1 h2=>?_⟩
 ·unfold ltV;simp[Cp.ordB.irr]
 ·unfold ltV at *
  simp only[Fe,Bz,decide_eq_true_eq]at *
  rcases h1 with h1 | ⟨e1,h1⟩
  ·rcases h2 with h2 | ⟨e2,h2⟩
   ·exact F2 (Cp.ordB.tr h1 h2)
   ·exact F2 (by rw[← e2];exact h1)
  ·rcases h2 with h2 | ⟨e2,h2⟩
   ·exact F2 (by rw[e1];exact h2)
   ·refine G9 ⟨e1.trans e2,?_⟩
    rcases h1 with h1 | ⟨f1,h1⟩
    ·rcases h2 with h2 | ⟨f2,h2⟩
     ·exact F2 (Cp.ordB.tr h1 h2)
     ·exact F2 (by rw[← f2];exact h1)
    ·rcases h2 with h2 | ⟨f2,h2⟩
     ·exact F2 (by rw[f1];exact h2)
     ·exact G9 ⟨f1.trans f2,by omega⟩
 ·unfold ltV at *
  simp only[Fe,Bz,decide_eq_true_eq,Bool.or_eq_false_iff,Bool.and_eq_false_iff,decide_eq_false_iff_not]at *
  obtain⟨a1,a2⟩:=h1
  by_cases e1:x.1=y.1
  ·rcases a2 with a2 | ⟨b1,b2⟩
   ·exact absurd e1 a2
   ·by_cases f1:x.2.1=y.2.1
    ·rcases b2 with b2 | ⟨c1,c2⟩
     ·exact absurd f1 b2
     ·refine G9 ⟨e1.symm,G9 ⟨f1.symm,?_⟩⟩
      have h3:¬ (x.2.2.1=y.2.2.1∧x.2.2.2=y.2.2.2):=fun h9=>h2 (Prod.ext e1 (Prod.ext f1 (Prod.ext h9.1 h9.2)))
      omega
    ·exact G9 ⟨e1.symm,F2 (Cp.ordB.tot b1 f1)⟩
  ·exact F2 (Cp.ordB.tot a1 e1)
def order (l:List Rd) (ids:List Int) (by_:Int) (lang:By):List Int:=(Cp.puts ltV ((l.filter fun r=>decide (r.id∈ids)).map (vals by_ lang))).map (·.2.2.2)
theorem vals_id (by_:Int) (lang:By) (r:Rd):(vals by_ lang r).2.2.2=r.id:=by
 unfold vals
 by_cases h1:by_=1
 ·rw[if_pos h1]
 ·rw[if_neg h1]
  by_cases h2:by_=2
  ·rw[if_pos h2]
  ·rw[if_neg h2]
   by_cases h3:by_=3
   ·rw[if_pos h3]
   ·rw[if_neg h3]
open Rc
theorem cmpB_neg {a b:By}:cmpB a b<0↔F1 a b=true:=by
 unfold cmpB
 by_cases h:F1 a b=true
 ·rw[if_pos h];exact⟨fun _=>h,fun _=>by decide⟩
 ·rw[if_neg h]
  split <;> exact⟨fun h9=>absurd h9 (by decide),fun h9=>absurd h9 h⟩
theorem cmpB_zero {a b:By}:cmpB a b=0↔a=b:=by
 unfold cmpB
 by_cases h:F1 a b=true
 ·rw[if_pos h]
  refine⟨fun h9=>absurd h9 (by decide),fun e=>?_⟩
  rw[e,Cp.ordB.irr]at h
  cases h
 ·rw[if_neg h]
  by_cases e:a=b
  ·rw[if_pos e];exact⟨fun _=>e,fun _=>rfl⟩
  ·rw[if_neg e];exact⟨fun h9=>absurd h9 (by decide),fun h9=>absurd h9 e⟩
theorem cmp_neg {lang a b:By}:cmp lang a b<0↔F1 (key lang a) (key lang b)=true∨(key lang a=key lang b∧F1 a b=true):=by
 unfold cmp
 by_cases h:key lang a=key lang b
 ·rw[if_pos h,cmpB_neg]
  constructor
  ·exact fun h9=>.inr ⟨h,h9⟩
  ·rintro (h9 | h9)
   ·rw[h,Cp.ordB.irr]at h9;cases h9
   ·exact h9.2
 ·rw[if_neg h,cmpB_neg]
  constructor
  ·exact .inl
  ·rintro (h9 | h9)
   ·exact h9
   ·exact absurd h9.1 h
theorem cmp_zero {lang a b:By}:cmp lang a b=0↔a=b:=by
 unfold cmp
 by_cases h:key lang a=key lang b
 ·rw[if_pos h,cmpB_zero]
 ·rw[if_neg h,cmpB_zero]
  exact⟨fun e=>absurd e h,fun e=>absurd (by rw[e]) h⟩
def firstP (by_:Int) (lang:By) (a b:Rd):Int :=
 if by_=1 then cmp lang (skip a.lang.data.toList (title a.fields)) (skip b.lang.data.toList (title b.fields))
 else if by_=2 then cmp lang (author a.fields) (author b.fields)
 else if by_=3 then ER (year b.fields:Int) (year a.fields:Int)
 else 0
theorem ltV_iff {x y:V}:ltV x y=true↔F1 x.1 y.1=true∨(x.1=y.1∧(F1 x.2.1 y.2.1=true∨(x.2.1=y.2.1∧(x.2.2.1<y.2.2.1∨(x.2.2.1=y.2.2.1∧x.2.2.2<y.2.2.2))))):=by
 unfold ltV
 simp only[Fe,Bz,decide_eq_true_eq]
theorem ltB_nil:F1 [] []=false:=Cp.ordB.irr _
theorem lex_neg {lang a b:By}{i j:Int}:(cmp lang a b<0∨(cmp lang a b=0∧i<j))↔ltV (key lang a,a,0,i) (key lang b,b,0,j)=true:=by
 rw[ltV_iff,cmp_neg,cmp_zero]
 simp only[Int.lt_irrefl,false_or,true_and]
 constructor
 ·rintro ((h | ⟨h1,h2⟩) | ⟨h1,h2⟩)
  ·exact .inl h
  ·exact .inr ⟨h1,.inl h2⟩
  ·exact .inr ⟨by rw[h1],.inr ⟨h1,h2⟩⟩
 ·rintro (h | ⟨h1,h2 | ⟨h2,h3⟩⟩)
  ·exact .inl (.inl h)
  ·exact .inl (.inr ⟨h1,h2⟩)
  ·exact .inr ⟨h2,h3⟩
theorem num_lt {x y:Int}{i j:Int}:ltV ([],[],x,i) ([],[],y,j)=true↔x<y∨(x=y∧i<j):=by
 rw[ltV_iff]
 simp only[ltB_nil,Bool.false_eq_true,false_or,true_and]
theorem firstP_lt (by_:Int) (lang:By) (a b:Rd):(firstP by_ lang a b<0∨(firstP by_ lang a b=0∧a.id<b.id))↔ltV (vals by_ lang a) (vals by_ lang b)=true:=by
 unfold firstP vals
 by_cases h1:by_=1
 ·simp only[if_pos h1];exact lex_neg
 ·simp only[if_neg h1]
  by_cases h2:by_=2
  ·simp only[if_pos h2];exact lex_neg
  ·simp only[if_neg h2]
   by_cases h3:by_=3
   ·simp only[if_pos h3]
    rw[num_lt]
    unfold ER
    by_cases g1:(year b.fields:Int)<(year a.fields:Int)
    ·rw[if_pos g1];omega
    ·rw[if_neg g1]
     by_cases g2:(year b.fields:Int) > (year a.fields:Int)
     ·rw[if_pos g2];omega
     ·rw[if_neg g2];omega
   ·simp only[if_neg h3]
    rw[num_lt]
    simp
theorem order_sorted {S T:List Rd}{by_:Int}{lang:By} (hp:S.Perm T) (hs:S.Pairwise fun x y=>ltV (vals by_ lang y) (vals by_ lang x)=false) (hn:(T.map (·.id)).Nodup) :
  S.map (·.id)=(Cp.puts ltV (T.map (vals by_ lang))).map (·.2.2.2):=by
 have hnS:(S.map (·.id)).Nodup:=(hp.map _).nodup_iff.2 hn
 have hA:Cp.Asc ltV (S.map (vals by_ lang)):=by
  unfold Cp.Asc
  rw[I0]
  rw[List.Nodup,I0]at hnS
  refine (hs.and hnS).imp fun {x y} ⟨h1,h2⟩=>?_
  exact ordV.tot h1 fun e=>h2 (by rw[← vals_id by_ lang x,← vals_id by_ lang y,e])
 rw[← Cp.puts_of ordV hA fun z=>(hp.map _).mem_iff,List.map_map]
 exact List.map_congr_left fun x _=>(vals_id by_ lang x).symm
section
variable {α : Type} {lt : α → α → Bool}
def InsJ (lt:α→α→Bool) (i j:Nat) (L:List α):Prop :=
 ∃ (A:List α) (x:α) (B C:List α),L=A++x::(B++C)∧A.length=j∧A.length+B.length=i∧(A++B).Pairwise (fun p q=>lt q p=false)∧∀ b∈B,lt x b=true
def Srt (lt:α→α→Bool) (L:List α):Prop:=L.Pairwise fun p q=>lt q p=false
theorem insJ_start {i:Nat}{L:List α} (hi:i<L.length) (h:Srt lt (L.take i)):InsJ lt i i L:=by
 refine⟨L.take i,L[i],[],L.drop (i+1),?_,by rw[Az];omega,by rw[Az,List.length_nil];omega,by rw[List.append_nil];exact h,fun b hb=>by cases hb⟩
 rw[List.nil_append,← List.drop_eq_getElem_cons hi,List.take_append_drop]
theorem set_two {A R:List α}{y x:α}:((A++y::x::R).set (A.length+1) y).set A.length x=A++x::y::R:=by
 rw[List.set_append_right _ _ (by omega),show A.length+1 - A.length=1 by omega]
 show (A++y::y::R).set A.length x=_
 rw[List.set_append_right _ _ (An _),IL]
 rfl
theorem insJ_two {i jp:Nat}{L:List α} (h:InsJ lt i (jp+1) L):∃ (A:List α) (y x:α) (B C:List α),L=A++y::x::(B++C)∧A.length=jp∧jp+1+B.length=i∧(A++y::B).Pairwise (fun p q=>lt q p=false)∧∀ b∈B,lt x b=true:=by
 obtain⟨A,x,B,C,rfl,h1,h2,h3,h4⟩:=h
 have hne:A≠[]:=by intro e;rw[e]at h1;cases h1
 refine⟨A.dropLast,A.getLast hne,x,B,C,?_,by rw[List.length_dropLast];omega,by omega,?_,h4⟩
 ·conv=>lhs;rw[← It hne]
  rw[B0];rfl
 ·have e:A.dropLast++A.getLast hne::B=A++B:=by
   conv=>rhs;rw[← It hne]
   rw[B0];rfl
  rw[e];exact h3
theorem insJ_step {i jp:Nat}{L:List α}{xj xp:α} (h:InsJ lt i (jp+1) L) (hj:L[jp+1]?=A2 xj) (hp:L[jp]?=A2 xp) (hlt:lt xj xp=true):InsJ lt i jp ((L.set (jp+1) xp).set jp xj)∧((L.set (jp+1) xp).set jp xj).Perm L:=by
 obtain⟨A,y,x,B,C,rfl,h1,h2,h3,h4⟩:=insJ_two h
 subst h1
 have e1:xj=x:=by
  rw[CS (by omega),show A.length+1 - A.length=1 by omega]at hj
  injection hj with hj
  exact hj.symm
 have e2:xp=y:=by
  rw[CS (An _),IL]at hp
  injection hp with hp
  exact hp.symm
 subst e1 e2
 rw[set_two]
 refine⟨⟨A,xj,xp::B,C,rfl,rfl,by rw[List.length_cons];omega,h3,fun b hb=>?_⟩,?_⟩
 ·rcases B9.1 hb with rfl | hb
  ·exact hlt
  ·exact h4 b hb
 ·exact (List.Perm.swap xp xj _).append_left A
theorem insJ_stop (ntr:∀ x y z,lt x y=false→lt y z=false→lt x z=false) (asy:∀ x y,lt x y=true→lt y x=false) {i j:Nat}{L:List α} (h:InsJ lt i j L) (hs:j=0∨∃ xj xp,L[j]?=A2 xj∧L[j - 1]?=A2 xp∧lt xj xp=false):Srt lt (L.take (i+1)):=by
 obtain⟨A,x,B,C,rfl,h1,h2,h3,h4⟩:=h
 have e:(A++x::(B++C)).take (i+1)=A++x::B:=by
  have:A++x::(B++C)=(A++x::B)++C:=by simp
  rw[this,List.take_left' (by simp;omega)]
 rw[e]
 obtain⟨p1,p2,p3⟩:=NW.1 h3
 refine List.pairwise_append.2 ⟨p1,List.pairwise_cons.2 ⟨fun b hb=>asy _ _ (h4 b hb),p2⟩,fun a ha b hb=>?_⟩
 rcases B9.1 hb with rfl | hb
 ·rcases hs with h0 | ⟨xj,xp,hj,hp,hlt⟩
  ·rw[h0]at h1
   have:=Aw h1
   rw[this]at ha;cases ha
  ·have hj2:xj=b:=by
    rw[CS (by omega),h1,IL]at hj
    injection hj with hj
    exact hj.symm
   subst hj2
   by_cases h0:A=[]
   ·rw[h0]at ha;cases ha
   ·have hl:A.length≠0:=fun e=>h0 (Aw e)
    have hp2:A.getLast h0=xp:=by
     rw[List.getElem?_append_left (by omega),← h1,← List.getLast?_eq_getElem?,List.getLast?_eq_some_getLast h0]at hp
     injection hp
    by_cases hal:a=xp
    ·rw[hal];exact hlt
    ·refine ntr _ _ _ hlt ?_
     have e2:A=A.dropLast++[xp]:=by rw[← hp2];exact (It h0).symm
     rw[e2]at ha p1
     have p4:=(NW.1 p1).2.2
     rcases List.mem_append.1 ha with ha | ha
     ·exact p4 a ha xp List.mem_cons_self
     ·rw[List.mem_singleton]at ha
      exact absurd ha hal
 ·exact p3 a ha b hb
end
theorem ord_ntr {α β:Type}{lt:β→β→Bool} (o:Cp.Ord lt) (f:α→β):∀ x y z:α,lt (f x) (f y)=false→lt (f y) (f z)=false→lt (f x) (f z)=false:=fun x y z h1 h2=>by
 rw[Bq]
 intro h3
 by_cases e:f y=f z
 ·rw[e,h3]at h1;cases h1
 ·have h4:=o.tot h2 e
  have h5:=o.tr h3 h4
  rw[h1]at h5;cases h5
theorem ord_asy {α β:Type}{lt:β→β→Bool} (o:Cp.Ord lt) (f:α→β):∀ x y:α,lt (f x) (f y)=true→lt (f y) (f x)=false:=fun x y h=>by
 rw[Bq]
 intro h3
 have:=o.tr h h3
 rw[o.irr]at this;cases this
end Sr
section
open Go.Shelf
namespace Sr
structure Dk {α:Type} (enc:α→List Ah) (k:Nat) (e:Bd) (w:A9) (g:Nat) (L:List α):Prop where
 cells:∀ (j:Nat) (t:α),L[j]?=A2 t→∀ (i:Nat) (u:Ah),(enc t)[i]?=A2 u→w.cell? ⟨g,j*k+i,A4⟩=A2 u
 blk:∃ cur,w.heap[g]?=A2 (.cells cur e (0,0))
section
variable {α : Type} {enc : α → List Ah} {k : Nat} {e : Bd} {w w' : A9} {g : Nat} {L : List α}
theorem Dk.lt (h:Dk enc k e w g L):g<w.heap.size:=by
 obtain⟨cur,hc⟩:=h.blk
 exact (Array.getElem?_eq_some_iff.1 hc).1
theorem Dk.frozen (h:Dk enc k e w g L) (o:Nat):w.frozen? ⟨g,o,A4⟩=false:=by
 obtain⟨cur,hc⟩:=h.blk
 simp[World.frozen?,hc]
theorem Dk.of_block (h:Dk enc k e w g L) (hb:w'.heap[g]?=w.heap[g]?):Dk enc k e w' g L :=
 ⟨fun j t hj i u hu=>(World.cell?_of_block hb).trans (h.cells j t hj i u hu),by rw[hb];exact h.blk⟩
theorem Dk.below (h:Dk enc k e w g L) (hb:A6 w.heap.size w w'):Dk enc k e w' g L:=h.of_block (hb.block g h.lt)
theorem dk_blk {e:Bd}{g:Nat}:∀ (vs:List Ah) (o:Nat) (w:A9),(∃ cur,w.heap[g]?=A2 (.cells cur e (0,0)))→∃ cur,(w.setCells g o vs).heap[g]?=A2 (.cells cur e (0,0))
 | [],_,_,h=>h
 | v::r,o,w,⟨cur,h⟩=>dk_blk r (o+1) _ ⟨_,heap_setCell_same w g o cur e v h⟩
theorem Dk.set (h:Dk enc k e w g L) (hk:∀ x,(enc x).length=k) {m:Nat}{old t:α} (hm:L[m]?=A2 old):Dk enc k e (w.setCells g (m*k) (enc t)) g (L.set m t):=by
 refine⟨fun j x hj i u hu=>?_,dk_blk _ _ _ h.blk⟩
 have hml:m<L.length:=(Ai.1 hm).1
 have hik:i<k:=by rw[← hk x];exact (Ai.1 hu).1
 by_cases e9:m=j
 ·subst e9
  rw[List.getElem?_set_self hml]at hj
  injection hj with hj
  subst hj
  have:=World.cell?_setCells_in g (enc t) (m*k) w (fun q hq=>by
   have hq4:q<(enc old).length:=by rw[hk];rw[hk]at hq;exact hq
   rw[h.cells m old hm q ((enc old)[q]'hq4) (A7 _)];rfl) i (by rw[hk];exact hik)
  rw[this,← hu,A7]
 ·rw[Jj e9]at hj
  have hne:j*k+i<m*k∨m*k+k≤j*k+i:=by
   rcases (by omega:j<m∨m<j) with h9 | h9
   ·have:=Jk k (show j+1≤m from h9)
    rw[Hv]at this
    exact .inl (by omega)
   ·have:=Jk k (show m+1≤j from h9)
    rw[Hv]at this
    exact .inr (by omega)
  rw[World.cell?_setCells_out g _ _ _ _ (fun _ _=>by rw[hk];omega)]
  exact h.cells j x hj i u hu
theorem Dk.load (P:Program) (h:Dk enc k e w g L) (hk:∀ x,(enc x).length=k) {j:Nat}{t:α} (hj:L[j]?=A2 t):Mu P (JU ⟨g,j*k,A4⟩ 0 k #[]) w=.ok (enc t).toArray w :=
 run_loadCellsFrom_list P w ⟨g,j*k,A4⟩ (enc t) k (hk t) fun i u hu=>by rw[Cs.add_at];exact h.cells j t hj i u hu
theorem Dk.store (P:Program) (h:Dk enc k e w g L) (hk:∀ x,(enc x).length=k) (h1:∀ x,∀ v∈enc x,v.oneCell'=true) {j:Nat}{t:α} (hj:L[j]?=A2 t) (x:α):Mu P (storeCells ⟨g,j*k,A4⟩ (enc x) 0) w=.ok () (w.setCells g (j*k) (enc x)):=by
 have:=run_storeCells_cells (P:=P) g (j*k) (enc x) 0 w (fun i hi=>by
  have hi2:i<(enc t).length:=by rw[hk];rw[hk]at hi;exact hi
  rw[Bs,h.cells j t hj i _ (A7 hi2)];rfl) (fun i _=>h.frozen _) (h1 x)
 rw[Bs]at this
 exact this
theorem fr_sets {a:A9}:∀ (vs:List Ah) (o:Nat) (w:A9),Co g a w→Co g a (w.setCells g o vs)
 | [],_,_,h=>h
 | v::r,o,_,h=>fr_sets r (o+1) _ (h.set (p:=⟨g,o,A4⟩) rfl v)
end
section
variable {ρ : Ren} {α : Type}
theorem insertion (L:SlLaysF0.n20 A3 ρ) (k:Nat) (aE:∀ w,(isAgg (ρ.t 24)).run A3 w=.ok true w) (zE:∀ w,(Go.sizeOf (ρ.t 24)).run A3 w=.ok k w) (enc:α→List Ah) (hk:∀ x,(enc x).length=k) (h1:∀ x,∀ v∈enc x,v.oneCell'=true)
  (cf:α→α→Int) (lt:α→α→Bool) (hlt:∀ x y,lt x y=decide (cf x y<0)) (ntr:∀ x y z,lt x y=false→lt y z=false→lt x z=false) (asy:∀ x y,lt x y=true→lt y x=false)
  (g:Nat) (cb:Array Ah) (blk cap:Nat) (T:List α) (ty:Bd) (w0 w:A9) (eg:∀ args w,(callFunc g args).run A3 w=.ok (.enter g args) w)
  (hcmp:∀ x∈T,∀ y∈T,∀ W,Co blk w0 W→Ac A3 g (#[.agg (enc x).toArray,.agg (enc y).toArray]++cb) W fun e w'=>e=.returned (.int .i64 (cf x y))∧A6 W.heap.size W w')
  (hb:Co blk w0 w) (hD:Dk enc k ty w blk T) (hn:T.length≤1000) :
  Ac A3 (ρ.f 20) #[.slice (A2 ⟨blk,0,A4⟩) T.length cap,.int .i64 0,.int .i64 T.length,.func (.func g) #[] cb] w fun e w'=>e=.returned (.tuple #[])∧∃ S:List α,S.Perm T∧Srt lt S∧Dk enc k ty w' blk S∧Co blk w0 w':=by
 have mixed:=L.mixed;have t0:=L.t0;have a0:=L.a0;have z0:=L.z0;have v0:=L.v0;have t3:=L.t3;have a3:=L.a3;have z3:=L.z3;have v3:=L.v3;have t4:=L.t4;have a4:=L.a4;have z4:=L.z4;have v4:=L.v4;have t22:=L.t22;have a22:=L.a22;have z22:=L.z22;have v22:=L.v22;have t25:=L.t25;have a25:=L.a25;have z25:=L.z25;have v25:=L.v25
 have u22:=run_underlying L.t22
 obtain⟨nm20,_,F20⟩:=L.f20
 have HC:=J hcmp
 have HD0:=J hD
 have HK:=J hk
 have H1:=J h1
 have HLT:=J hlt
 have HNT:=J ntr
 have HAS:=J asy
 clear hcmp hD hk h1 hlt ntr asy
 go_enter F20,SlBodyF.n20_ntmps ρ
 go_wp2
 go_loopg [8] T.length (fun g1 vi wr=>∃ (i:Nat) (S:List α),vi=.int .i64 i∧1≤i∧i≤T.length+1∧T.length+1 - i≤g1+1∧S.length=T.length∧Hid (S.Perm T)∧Hid (Srt lt (S.take i))∧Hid (Dk enc k ty wr blk S)∧Hid (Co blk w0 wr))
 case atStart=>exact⟨1,T,by go_num,An _,by omega,by omega,rfl,J (List.Perm.refl _),J (by
  unfold Srt
  cases T with
  | nil=>exact List.Pairwise.nil
  | cons x r=>exact List.pairwise_singleton _ _),HD0,J hb⟩
 case round =>
  obtain⟨i,S,rfl,hi1,hi2,hg1,hSl,HP,HS,HD,HB⟩:=hrel
  by_cases hlt:i<T.length
  ·have hltz:(i:Int)<(T.length:Int):=by omega
   go_wp2
   go_loopg [9] i (fun g2 vj wr2=>∃ (j:Nat) (M:List α),vj=.int .i64 j∧j≤i∧j≤g2∧M.length=T.length∧Hid (M.Perm T)∧Hid (InsJ lt i j M)∧Hid (Dk enc k ty wr2 blk M)∧Hid (Co blk w0 wr2))
   case atStart=>exact⟨i,S,rfl,An _,An _,hSl,HP,J (insJ_start (by omega) HS.out),HD,HB⟩
   case round =>
    obtain⟨j,M,rfl,hji,hg2,hMl,HP2,HJ,HD2,HB2⟩:=hrel
    by_cases hja:0<j
    ·obtain⟨jp,rfl⟩:∃ jp,j=jp+1:=⟨j - 1,by omega⟩
     obtain⟨xj,hxj⟩:∃ x,M[jp+1]?=A2 x:=⟨_,A7 (by omega)⟩
     obtain⟨xp,hxp⟩:∃ x,M[jp]?=A2 x:=⟨_,A7 (by omega)⟩
     have hwp:IntKind.i64.wrap (jp:Int)=(jp:Int):=by rw[IntKind.wrap_i64];omega
     have jz:(jp:Int)+1<(T.length:Int):=by omega
     have jz1:(jp:Int)<(T.length:Int):=by omega
     have hjaz':(0:Int)<(jp:Int)+1:=by omega
     have p0:(0:Int)≤(jp:Int)+1:=by omega
     have e0:((jp:Int)+1).toNat=jp+1:=by omega
     have lj:=HD2.out.load A3 HK.out hxj
     have lp:=HD2.out.load A3 HK.out hxp
     have HLJ:=J fun W (h:A6 wr.heap.size wr W)=>(HD2.out.below h).load A3 HK.out hxj
     have HLP:=J fun W (h:A6 wr.heap.size wr W)=>(HD2.out.below h).load A3 HK.out hxp
     have HCC:=J fun W (h:A6 wr.heap.size wr W)=>HC.out xj (HP2.out.mem_iff.1 (Ag hxj)) xp (HP2.out.mem_iff.1 (Ag hxp)) W (HB2.out.trans (.of_below h))
     have HXJ:=J hxj
     have HXP:=J hxp
     clear hxj hxp
     obtain⟨cv,hcv⟩:∃ cv,cf xj xp=cv:=⟨_,rfl⟩
     have hl:=HLT.out xj xp
     rw[hcv]at hl HCC
     have HLV:=J hl
     clear hl hcv
     obtain⟨cJ,hcJ⟩:∃ c,c=enc xj:=⟨_,rfl⟩
     obtain⟨cP,hcP⟩:∃ c,c=enc xp:=⟨_,rfl⟩
     rw[← hcP]at lp HLP HCC
     rw[← hcJ]at lj HLJ HCC
     have HCJ:=J hcJ
     have HCP:=J hcP
     clear hcJ hcP
     by_cases hlv:cv<0
     ·go_wp2
      go_region_held3 (fun w'=>A6 wr.heap.size wr w'∧Mu A3 (JU ⟨blk,(jp+1)*k,A4⟩ 0 k #[]) w'=.ok cJ.toArray w'∧Mu A3 (JU ⟨blk,jp*k,A4⟩ 0 k #[]) w'=.ok cP.toArray w')
       (first | exact⟨(Ab _ _).drew,HLJ.out _ (Ab _ _).drew,HLP.out _ (Ab _ _).drew⟩ | (go_split_ands;exact⟨Tx.step ‹_› hbx,HLJ.out _ (Tx.step ‹_› hbx),HLP.out _ (Tx.step ‹_› hbx)⟩))
       (first | (go_split_ands;go_at_fn g;refine (HCC.out _ ‹_›).mono ?_;rintro e wx ⟨rfl,hbx⟩))
      go_split_ands
      have hbx9:A6 wr.heap.size wr wx:=by assumption
      have hx9:=hbx9.size
      have HDX:=J (HD2.out.below hbx9)
      have HBX:=J (HB2.out.trans (.of_below hbx9))
      go_wp2_with fail
      have lj2:Mu A3 (JU ⟨blk,(jp+1)*k,A4⟩ 0 k #[]) wx.drew=.ok cJ.toArray wx.drew:=by
       have:Dk enc k ty wx.drew blk M:=HDX.out.of_block rfl
       rw[HCJ.out];exact this.load A3 HK.out HXJ.out
      have lp2:Mu A3 (JU ⟨blk,jp*k,A4⟩ 0 k #[]) wx.drew=.ok cP.toArray wx.drew:=by
       have:Dk enc k ty wx.drew blk M:=HDX.out.of_block rfl
       rw[HCP.out];exact this.load A3 HK.out HXP.out
      have HDZ:Hid (Dk enc k ty (wx.drew.setCells blk ((jp+1)*k) cP) blk (M.set (jp+1) xp)):=J (by
       have:Dk enc k ty wx.drew blk M:=HDX.out.of_block rfl
       rw[HCP.out];exact this.set HK.out HXJ.out)
      have s1:Mu A3 (storeCells ⟨blk,(jp+1)*k,A4⟩ cP 0) wx.drew=.ok () (wx.drew.setCells blk ((jp+1)*k) cP):=by
       have:Dk enc k ty wx.drew blk M:=HDX.out.of_block rfl
       rw[HCP.out];exact this.store A3 HK.out H1.out HXJ.out xp
      have s2:Mu A3 (storeCells ⟨blk,jp*k,A4⟩ cJ 0) (wx.drew.setCells blk ((jp+1)*k) cP)=.ok () ((wx.drew.setCells blk ((jp+1)*k) cP).setCells blk (jp*k) cJ):=by
       rw[HCJ.out];exact HDZ.out.store A3 HK.out H1.out (t:=xp) (by rw[Jj (by omega)];exact HXP.out) xj
      have hsJ:cJ.length=k:=by rw[HCJ.out];exact HK.out _
      have hsP:cP.length=k:=by rw[HCP.out];exact HK.out _
      clear lj lp
      go_big_region_o
      all_goals go_wp2
      go_roundg jp
      case measure=>omega
      case rel =>
       have hst:=insJ_step HJ.out HXJ.out HXP.out (by rw[HLV.out];exact decide_eq_true hlv)
       refine⟨jp,(M.set (jp+1) xp).set jp xj,by first | rfl | go_num,by omega,An _,by simpa using hMl,J (hst.2.trans HP2.out),J hst.1,J ?_,J ?_⟩
       ·rw[HCJ.out]
        exact HDZ.out.set HK.out (old:=xp) (by rw[Jj (by omega)];exact HXP.out)
       ·exact fr_sets _ _ _ (fr_sets _ _ _ HBX.out.drew)
     ·go_wp2
      go_region_held3 (fun w'=>A6 wr.heap.size wr w'∧Mu A3 (JU ⟨blk,(jp+1)*k,A4⟩ 0 k #[]) w'=.ok cJ.toArray w'∧Mu A3 (JU ⟨blk,jp*k,A4⟩ 0 k #[]) w'=.ok cP.toArray w')
       (first | exact⟨(Ab _ _).drew,HLJ.out _ (Ab _ _).drew,HLP.out _ (Ab _ _).drew⟩ | (go_split_ands;exact⟨Tx.step ‹_› hbx,HLJ.out _ (Tx.step ‹_› hbx),HLP.out _ (Tx.step ‹_› hbx)⟩))
       (first | (go_split_ands;go_at_fn g;refine (HCC.out _ ‹_›).mono ?_;rintro e wx ⟨rfl,hbx⟩))
      go_split_ands
      have hbx9:A6 wr.heap.size wr wx:=by assumption
      clear lj lp
      go_wp2
      go_roundg (T.length - (i+1))
      case measure=>omega
      case rel=>exact⟨i+1,M,by go_num,by omega,by omega,by omega,hMl,HP2,J (insJ_stop HNT.out HAS.out HJ.out (.inr ⟨xj,xp,HXJ.out,by rw[Nat.add_sub_cancel];exact HXP.out,by rw[HLV.out];exact decide_eq_false (by omega)⟩)),J (HD2.out.below hbx9),J (HB2.out.trans (.of_below hbx9))⟩
    ·obtain rfl:j=0:=by omega
     have hjaz:decide (((0:Nat):Int) > (0:Int))=false:=rfl
     have HST:Hid (Srt lt (M.take (i+1))):=J (insJ_stop HNT.out HAS.out HJ.out (.inl rfl))
     go_wp2_with fail
     go_big_region_o
     all_goals go_wp2
     go_roundg (T.length - (i+1))
     case measure=>omega
     case rel=>exact⟨i+1,M,by go_num,by omega,by omega,by omega,hMl,HP2,HST,J (HD2.out.of_block rfl),J (HB2.out.drew)⟩
  ·have hltz:¬ (i:Int)<(T.length:Int):=by omega
   go_wp2
   go_end0
   exact⟨rfl,S,HP.out,by have:=HS.out;rwa [List.take_of_length_le (by omega)]at this,HD.out,HB.out⟩
end
open Rc
theorem Dk.of_own {α:Type}{enc:α→List Ah}{k:Nat}{e:Bd}{w:A9}{B g n cap:Nat}{T:List α} (hk:∀ x,(enc x).length=k) (h:w.ownsRow B e k (.slice (A2 ⟨g,0,A4⟩) n cap) n (T.flatMap enc)) (hn:n=T.length):Dk enc k e w g T:=by
 obtain⟨a,c,e1,h1,_⟩:=Br.FA.of_own hk h hn
 injection e1 with e1 e2 e3
 refine⟨fun j t hj i u hu=>?_,?_⟩
 ·obtain⟨b,o,e4,_,h5⟩:=h1.get hj
  rw[← e1]at e4
  injection e4 with e4
  injection e4 with e4 e6
  subst e4 e6
  have:=h5 i u hu
  rwa [D9]at this
 ·rcases h.2 with⟨e9,_⟩ | ⟨g',cap',cur,e9,_,h3,_⟩
  ·cases e9
  ·injection e9 with e9
   injection e9 with e9
   injection e9 with e9
   subst e9
   exact⟨cur,h3⟩
theorem Dk.fa {α:Type}{enc:α→List Ah}{k:Nat}{e:Bd}{w:A9}{g cap:Nat}{S:List α} (h:Dk enc k e w g S) (hc:S.length≤cap) (hm:cap≤maxLen):Br.FA enc k w (A2 ⟨g,0,A4⟩) cap S :=
 ⟨hc,hm,g,0,fun _=>⟨rfl,h.lt⟩,fun j i x u hx hu=>by rw[D9];exact h.cells j x hx i u hu⟩
end Sr
theorem recPdq_c (cf:JV→JV→Int) (lt:JV→JV→Bool) (hlt:∀ x y,lt x y=decide (cf x y<0)) (ntr:∀ x y z,lt x y=false→lt y z=false→lt x z=false) (asy:∀ x y,lt x y=true→lt y x=false)
  (g:Nat) (cb:Array Ah) (blk cap:Nat) (lim:Ah) (T:List JV) (w0 w:A9) (eg:∀ args w,(callFunc g args).run A3 w=.ok (.enter g args) w)
  (hcmp:∀ x∈T,∀ y∈T,∀ W,Co blk w0 W→Ac A3 g (#[.agg (BA x).toArray,.agg (BA y).toArray]++cb) W fun e w'=>e=.returned (.int .i64 (cf x y))∧A6 W.heap.size W w')
  (hb:Co blk w0 w) (hD:Sr.Dk BA 5 51 w blk T) (hn:T.length≤12) :
  Ac A3 101 #[.slice (A2 ⟨blk,0,A4⟩) T.length cap,.int .i64 0,.int .i64 T.length,lim,.func (.func g) #[] cb] w fun e w'=>e=.returned (.tuple #[])∧∃ S:List JV,S.Perm T∧Sr.Srt lt S∧Sr.Dk BA 5 51 w' blk S∧Co blk w0 w':=by
 have IC:Ac A3 169 #[.slice (A2 ⟨blk,0,A4⟩) T.length cap,.int .i64 0,.int .i64 T.length,.func (.func g) #[] cb] w fun e w'=>e=.returned (.tuple #[])∧∃ S:List JV,S.Perm T∧Sr.Srt lt S∧Sr.Dk BA 5 51 w' blk S∧Co blk w0 w' :=
  Sr.insertion { Tryz.sortRec with } 5 Tryz.isAgg51 Tryz.sizeOf51 BA Rc.encR_len Rc.r_one cf lt hlt ntr asy g cb blk cap T 51 w0 w eg hcmp hb hD (by omega)
 have HI:=J IC
 clear IC hlt ntr asy hcmp hD hb
 go_enter Tryz.func101,Tryz.ntmps101
 go_wp2
 go_loopw [1,2] (fun a b wr=>a=.int .i64 0∧b=.int .i64 T.length∧wr=w) (fun _ _ _=>0)
 case atStart=>exact⟨rfl,rfl,rfl⟩
 case round =>
  obtain⟨rfl,rfl,rfl⟩:=hrel
  have hle:(T.length:Int)≤12:=by omega
  go_wp2_with (go_at_call 169;((with_reducible refine HI.out.mono ?_);rintro e w1 ⟨rfl,hS⟩))
  (try simp only[Exit.inBlock,Exit.then]);refine bodyPost_ret (results_none rfl _ _ _) rfl ?_
  exact⟨rfl,hS⟩
theorem recSort_c (cf:JV→JV→Int) (lt:JV→JV→Bool) (hlt:∀ x y,lt x y=decide (cf x y<0)) (ntr:∀ x y z,lt x y=false→lt y z=false→lt x z=false) (asy:∀ x y,lt x y=true→lt y x=false)
  (g:Nat) (cb:Array Ah) (v:Ah) (B:Nat) (T:List JV) (w:A9) (eg:∀ args w,(callFunc g args).run A3 w=.ok (.enter g args) w)
  (hcmp:∀ blk,v.ownBlock=A2 blk→∀ x∈T,∀ y∈T,∀ W,Co blk w W→Ac A3 g (#[.agg (BA x).toArray,.agg (BA y).toArray]++cb) W fun e w'=>e=.returned (.int .i64 (cf x y))∧A6 W.heap.size W w')
  (hown:w.ownsRow B 51 5 v T.length (T.flatMap BA)) (hn:T.length≤12) :
  Ac A3 44 #[v,.func (.func g) #[] cb] w fun e w'=>e=.returned (.tuple #[])∧∃ (S:List JV) (a:Option Addr) (c:Nat),S.Perm T∧Sr.Srt lt S∧v=.slice a S.length c∧Br.FA BA 5 w' a c S∧w.grownBy w' v.ownBlock:=by
 rcases hown.2 with⟨rfl,h0⟩ | ⟨blk,cap,cur,rfl,hbase,hbk,g1,g2,g3,g4⟩
 ·have hnil:=Aw h0
  subst hnil
  refine (AnyF.slices_SortFunc_none Tryz.sortRec A4 0 (.func (.func g) #[] cb) w).mono fun e w' ⟨he,hw⟩=>?_
  subst hw
  exact⟨he,[],A4,0,List.Perm.refl _,List.Pairwise.nil,rfl,⟨An _,Nat.zero_le _,0,0,fun h=>absurd rfl h,fun j i x u hx=>by simp at hx⟩,⟨rfl,rfl,rfl,An _,fun _ _ _=>rfl⟩⟩
 ·have hD:=Sr.Dk.of_own Rc.encR_len hown rfl
  have PC:=fun lim W (h:A6 w.heap.size w W)=>recPdq_c cf lt hlt ntr asy g cb blk cap lim T w W eg (hcmp blk rfl) (.of_below h) (hD.below h) hn
  have HP:=J PC
  have LC:∀ W,Ac A3 102 #[.int .u64 T.length] W fun e w'=>∃ q:Int,e=.returned (.int .i64 q)∧A6 W.heap.size W w':=fun W=>by
   have h:=Tryz.bits_Len (T.length:Int) W (by omega) (by omega)
   exact h.mono fun e w' h9=>by
    obtain⟨h1,h2⟩:=h9
    exact⟨_,h1,by first | (rw[h2];exact Ab _ _) | (obtain⟨q,rfl⟩:=h2;exact Tx.below_drewN (Ab _ _) q)⟩
  have HL:=J LC
  clear PC LC hlt ntr asy hcmp hD hown hbk g3 g4
  go_enter Tryz.func44,Tryz.ntmps44
  go_wp2_with (first
   |(go_at_call 101;((with_reducible refine (HP.out _ _ hb1).mono ?_);rintro e w2 ⟨rfl,hS⟩))
   |(go_at_call 102;((with_reducible refine (HL.out _).mono ?_);rintro e w1 ⟨q,rfl,hb1⟩)))
  go_end0
  obtain⟨S,hp,hs,hd,hbb⟩:=hS
  exact⟨rfl,S,_,cap,hp,hs,by rw[hp.length_eq],hd.fa (by rw[hp.length_eq];exact g1) g2,⟨hbb.os,hbb.tape,hbb.output,hbb.size,fun k hk hne=>hbb.block k (fun e=>hne (by rw[e];rfl)) hk⟩⟩
end
end Go.Proofs.YtlakomilichhnaaGreatDoor
