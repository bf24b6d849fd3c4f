/- Parts. -/
import Derived.Test.YtlakomilichhnaaGreatDoorROj
import Derived.Shelf.SlSortCmp.NoneTotal
namespace Go.Proofs.YtlakomilichhnaaGreatDoor
set_option maxHeartbeats 4000000
set_option maxRecDepth 1000000
open Go.RowKit
open Bool renaming and_eq_true->Bu,eq_false_iff->CV,or_eq_true->DS
open Cp renaming ltB->Ei,ltI->Bf,put->D1,puts->BP
open Go renaming Calls->Af,TypeId->Bo,Value->Ak,World->Ab,loadCellsFrom->Ic,wpList_append_own->Cy
open Lib renaming compareInt->DR,hid->J
open List renaming append_assoc->AW,dropLast_concat_getLast->Gy,eq_nil_of_length_eq_zero->Ar,getElem?_append_right->BE,getElem?_eq_getElem->Ai,getElem?_eq_none->Ez,getElem?_eq_some_iff->Av,length_take->Az,map_congr_left->I8,map_cons->BX,map_map->DF,mem_cons->AL,mem_cons_self->B8,mem_map->BG,mem_of_getElem?->AJ,pairwise_append->LY,pairwise_map->Hc
open List.Perm renaming refl->Gw
open Nat renaming add_zero->BN,le_refl->Ad,mul_le_mul_right->Hh,sub_self->F9,succ_mul->Gc,zero_add->Ct
open Option renaming none->A0,some->A3
open Or renaming inl->Gq,inr->Iy
open Proofs.Tryz renaming prog->A8,underlying35->Bk
open Qr renaming Fr->AF
open Rc renaming RT->Im,encR->Bs
open RowKit.Below renaming refl->Ah
open Sem renaming run->Ky
open Value renaming int->B3
open World renaming ownsRow_lit->Eo
variable {P:Prop}
namespace Qr
end Qr
namespace Rc
end Rc
namespace Sr
open Rc hiding bys
open Qr
def yearsB (fs:List Fl) (q:Qy):Bool:=!decide ((year fs:Int)=0)&&(decide (q.a<=(year fs:Int))&&decide ((year fs:Int)<=q.b))
mutual
def ev (lf:Qy->Bool):Qy->Bool
 | .mk o f ws a b ks=>if o=5 then evAll lf ks else if o=6 then evAny lf ks else if o=7 then evNot lf ks else lf (.mk o f ws a b ks)
def evAll (lf:Qy->Bool):List Qy->Bool
 | []=>true
 | k::r=>ev lf k&&evAll lf r
def evAny (lf:Qy->Bool):List Qy->Bool
 | []=>false
 | k::r=>ev lf k||evAny lf r
def evNot (lf:Qy->Bool):List Qy->Bool
 | []=>false
 | k::r=>ev lf k&&!evAny lf r
end
theorem evAll_eq (lf:Qy->Bool):∀ ks,evAll lf ks=ks.all (ev lf)
 | []=>rfl
 | k::r=>by rw[evAll,evAll_eq lf r];rfl
theorem evAny_eq (lf:Qy->Bool):∀ ks,evAny lf ks=ks.any (ev lf)
 | []=>rfl
 | k::r=>by rw[evAny,evAny_eq lf r];rfl
def leafX (x:List Ix.Post) (r:Rd) (q:Qy):Bool :=
 if q.op=4 then yearsB r.fields q
 else if q.op=1 then decide (r.id∈Ix.word x q.fld ((bys q.ws).headD []))
 else if q.op=2 then decide (r.id∈Ix.prefix_ x q.fld ((bys q.ws).headD []))
 else decide (r.id∈Ix.phrase x q.fld (bys q.ws))
def evalQ (x:List Ix.Post) (l:List Rd) (q:Qy):List Int:=BP Bf ((l.filter fun r=>ev (leafX x r) q).map (·.id))
def page (ids:List Int) (fr n:Int):List Int:=(ids.drop fr.toNat).take n.toNat
abbrev V:=By × By × Int × Int
def vals (by_:Int) (lang:By) (r:Rd):V :=
 if by_=1 then (key lang (skip r.lang.data.toList (title r.fields)),skip r.lang.data.toList (title r.fields),0,r.id)
 else if by_=2 then (key lang (author r.fields),author r.fields,0,r.id)
 else if by_=3 then ([],[],-(year r.fields:Int),r.id)
 else ([],[],0,r.id)
def ltV (x y:V):Bool:=Ei x.1 y.1||(decide (x.1=y.1)&&(Ei x.2.1 y.2.1||(decide (x.2.1=y.2.1)&&(decide (x.2.2.1<y.2.2.1)||(decide (x.2.2.1=y.2.2.1)&&decide (x.2.2.2<y.2.2.2))))))
theorem ordV:Cp.Ord ltV:=by
 refine⟨fun x=>?_,fun {x y z} h1 h2=>?_,fun {x y} h1 h2=>?_⟩
 ·unfold ltV;simp[Cp.ordB.irr]
 ·unfold ltV at *;simp only[DS,Bu,decide_eq_true_eq]at *;rcases h1 with h1 | ⟨e1,h1⟩
  ·rcases h2 with h2 | ⟨e2,h2⟩
   ·exact Gq (Cp.ordB.tr h1 h2)
   ·exact Gq (by rw[<- e2];exact h1)
  ·rcases h2 with h2 | ⟨e2,h2⟩
   ·exact Gq (by rw[e1];exact h2)
   ·refine Iy ⟨e1.trans e2,?_⟩;rcases h1 with h1 | ⟨f1,h1⟩
    ·rcases h2 with h2 | ⟨f2,h2⟩
     ·exact Gq (Cp.ordB.tr h1 h2)
     ·exact Gq (by rw[<- f2];exact h1)
    ·rcases h2 with h2 | ⟨f2,h2⟩
     ·exact Gq (by rw[f1];exact h2)
     ·exact Iy ⟨f1.trans f2,oQ⟩
 ·unfold ltV at *;simp only[DS,Bu,decide_eq_true_eq,Bool.or_eq_false_iff,Bool.and_eq_false_iff,decide_eq_false_iff_not]at *;obtain⟨a1,a2⟩:=h1;by_cases e1:x.1=y.1
  ·rcases a2 with a2 | ⟨b1,b2⟩
   ·exact absurd e1 a2
   ·by_cases f1:x.2.1=y.2.1
    ·rcases b2 with b2 | ⟨c1,c2⟩
     ·exact absurd f1 b2
     ·refine Iy ⟨e1.symm,Iy ⟨f1.symm,?_⟩⟩;have h3:¬ (x.2.2.1=y.2.2.1/\x.2.2.2=y.2.2.2):=fun h9=>h2 (Prod.ext e1 (Prod.ext f1 (Prod.ext h9.1 h9.2)));omega
    ·exact Iy ⟨e1.symm,Gq (Cp.ordB.tot b1 f1)⟩
  ·exact Gq (Cp.ordB.tot a1 e1)
def order (l:List Rd) (ids:List Int) (by_:Int) (lang:By):List Int:=(BP ltV ((l.filter fun r=>decide (r.id∈ids)).map (vals by_ lang))).map (·.2.2.2)
theorem vals_id (by_:Int) (lang:By) (r:Rd):(vals by_ lang r).2.2.2=r.id:=by
 unfold vals;by_cases h1:by_=1
 ·rw[if_pos h1]
 ·rw[if_neg h1];by_cases h2:by_=2
  ·rw[if_pos h2]
  ·rw[if_neg h2];by_cases h3:by_=3
   ·rw[if_pos h3]
   ·rw[if_neg h3]
open Rc
theorem cmpB_neg {a b:By}:cmpB a b<0↔Ei a b=true:=by
 unfold cmpB;by_cases h:Ei a b=true
 ·rw[if_pos h];exact⟨fun _=>h,fun _=>oX⟩
 ·rw[if_neg h];split <;> exact⟨fun h9=>absurd h9 oX,fun h9=>absurd h9 h⟩
theorem cmpB_zero {a b:By}:cmpB a b=0↔a=b:=by
 unfold cmpB;by_cases h:Ei a b=true
 ·rw[if_pos h];refine⟨fun h9=>absurd h9 oX,fun e=>?_⟩;rw[e,Cp.ordB.irr]at h;cases h
 ·rw[if_neg h];by_cases e:a=b
  ·rw[if_pos e];exact⟨fun _=>e,fun _=>rfl⟩
  ·rw[if_neg e];exact⟨fun h9=>absurd h9 oX,fun h9=>absurd h9 e⟩
theorem cmpB_pos {a b:By}:0<cmpB a b↔Ei b a=true:=by
 unfold cmpB;by_cases h:Ei a b=true
 ·rw[if_pos h];refine⟨fun h9=>absurd h9 oX,fun h9=>?_⟩;have:=Cp.ordB.tr h h9;rw[Cp.ordB.irr]at this;cases this
 ·rw[if_neg h];by_cases e:a=b
  ·rw[if_pos e];refine⟨fun h9=>absurd h9 oX,fun h9=>?_⟩;rw[e,Cp.ordB.irr]at h9;cases h9
  ·rw[if_neg e];exact⟨fun _=>Cp.ordB.tot eJ e,fun _=>oX⟩
theorem cmp_neg {lang a b:By}:cmp lang a b<0↔Ei (key lang a) (key lang b)=true\/(key lang a=key lang b/\Ei a b=true):=by
 unfold cmp;by_cases h:key lang a=key lang b
 ·rw[if_pos h,cmpB_neg];constructor
  ·exact fun h9=>.inr ⟨h,h9⟩
  ·rintro (h9 | h9)
   ·rw[h,Cp.ordB.irr]at h9;cases h9
   ·exact h9.2
 ·rw[if_neg h,cmpB_neg];constructor
  ·exact .inl
  ·rintro (h9 | h9)
   ·exact h9
   ·exact absurd h9.1 h
theorem cmp_zero {lang a b:By}:cmp lang a b=0↔a=b:=by
 unfold cmp;by_cases h:key lang a=key lang b
 ·rw[if_pos h,cmpB_zero]
 ·rw[if_neg h,cmpB_zero];exact⟨fun e=>absurd e h,fun e=>absurd (by rw[e]) h⟩
theorem cmp_pos {lang a b:By}:0<cmp lang a b↔Ei (key lang b) (key lang a)=true\/(key lang b=key lang a/\Ei b a=true):=by
 unfold cmp;by_cases h:key lang a=key lang b
 ·rw[if_pos h,cmpB_pos];constructor
  ·exact fun h9=>.inr ⟨h.symm,h9⟩
  ·rintro (h9 | h9)
   ·rw[h,Cp.ordB.irr]at h9;cases h9
   ·exact h9.2
 ·rw[if_neg h,cmpB_pos];constructor
  ·exact .inl
  ·rintro (h9 | h9)
   ·exact h9
   ·exact absurd h9.1.symm h
def firstR (by_:Int) (lang:By) (a b:Rd):Int :=
 if by_=1 then cmp lang (skip a.lang.data.toList (title a.fields)) (skip b.lang.data.toList (title b.fields))
 else if by_=2 then cmp lang (author a.fields) (author b.fields)
 else if by_=3 then (year b.fields:Int) - (year a.fields:Int)
 else 0
def firstP (by_:Int) (lang:By) (a b:Rd):Int :=
 if by_=1 then cmp lang (skip a.lang.data.toList (title a.fields)) (skip b.lang.data.toList (title b.fields))
 else if by_=2 then cmp lang (author a.fields) (author b.fields)
 else if by_=3 then DR (year b.fields:Int) (year a.fields:Int)
 else 0
theorem ltV_iff {x y:V}:ltV x y=true↔Ei x.1 y.1=true\/(x.1=y.1/\(Ei x.2.1 y.2.1=true\/(x.2.1=y.2.1/\(x.2.2.1<y.2.2.1\/(x.2.2.1=y.2.2.1/\x.2.2.2<y.2.2.2))))):=by
 unfold ltV;simp only[DS,Bu,decide_eq_true_eq]
theorem ltB_nil:Ei [] []=false:=Cp.ordB.irr _
theorem lex_neg {lang a b:By}{i j:Int}:(cmp lang a b<0\/(cmp lang a b=0/\i<j))↔ltV (key lang a,a,0,i) (key lang b,b,0,j)=true:=by
 rw[ltV_iff,cmp_neg,cmp_zero];simp only[Int.lt_irrefl,false_or,true_and];constructor
 ·rintro ((h | ⟨h1,h2⟩) | ⟨h1,h2⟩)
  ·exact .inl h
  ·exact .inr ⟨h1,.inl h2⟩
  ·exact .inr ⟨by rw[h1],.inr ⟨h1,h2⟩⟩
 ·rintro (h | ⟨h1,h2 | ⟨h2,h3⟩⟩)
  ·exact .inl (.inl h)
  ·exact .inl (.inr ⟨h1,h2⟩)
  ·exact .inr ⟨h2,h3⟩
theorem lex_pos {lang a b:By}{i j:Int}:(0<cmp lang a b\/(cmp lang a b=0/\j<i))↔ltV (key lang b,b,0,j) (key lang a,a,0,i)=true:=by
 rw[ltV_iff,cmp_pos,cmp_zero];simp only[Int.lt_irrefl,false_or,true_and];constructor
 ·rintro ((h | ⟨h1,h2⟩) | ⟨h1,h2⟩)
  ·exact .inl h
  ·exact .inr ⟨h1,.inl h2⟩
  ·exact .inr ⟨by rw[h1],.inr ⟨h1.symm,h2⟩⟩
 ·rintro (h | ⟨h1,h2 | ⟨h2,h3⟩⟩)
  ·exact .inl (.inl h)
  ·exact .inl (.inr ⟨h1,h2⟩)
  ·exact .inr ⟨h2.symm,h3⟩
theorem num_lt {x y:Int}{i j:Int}:ltV ([],[],x,i) ([],[],y,j)=true↔x<y\/(x=y/\i<j):=by
 rw[ltV_iff];simp only[ltB_nil,Bool.false_eq_true,false_or,true_and]
theorem firstP_lt (by_:Int) (lang:By) (a b:Rd):(firstP by_ lang a b<0\/(firstP by_ lang a b=0/\a.id<b.id))↔ltV (vals by_ lang a) (vals by_ lang b)=true:=by
 unfold firstP vals;by_cases h1:by_=1
 ·simp only[if_pos h1];exact lex_neg
 ·simp only[if_neg h1];by_cases h2:by_=2
  ·simp only[if_pos h2];exact lex_neg
  ·simp only[if_neg h2];by_cases h3:by_=3
   ·simp only[if_pos h3];rw[num_lt];unfold DR;by_cases g1:(year b.fields:Int)<(year a.fields:Int)
    ·rw[if_pos g1];omega
    ·rw[if_neg g1];by_cases g2:(year b.fields:Int) > (year a.fields:Int)
     ·rw[if_pos g2];omega
     ·rw[if_neg g2];omega
   ·simp only[if_neg h3];rw[num_lt];simp
theorem firstR_gt (by_:Int) (lang:By) (a b:Rd):(0<firstR by_ lang a b\/(firstR by_ lang a b=0/\b.id<a.id))↔ltV (vals by_ lang b) (vals by_ lang a)=true:=by
 unfold firstR vals;by_cases h1:by_=1
 ·simp only[if_pos h1];exact lex_pos
 ·simp only[if_neg h1];by_cases h2:by_=2
  ·simp only[if_pos h2];exact lex_pos
  ·simp only[if_neg h2];by_cases h3:by_=3
   ·simp only[if_pos h3];rw[num_lt];omega
   ·simp only[if_neg h3];rw[num_lt];simp
theorem order_sorted {S T:List Rd}{by_:Int}{lang:By} (hp:S.Perm T) (hs:S.Pairwise fun x y=>ltV (vals by_ lang y) (vals by_ lang x)=false) (hn:(T.map (·.id)).Nodup) :
  S.map (·.id)=(BP ltV (T.map (vals by_ lang))).map (·.2.2.2):=by
 have hnS:(S.map (·.id)).Nodup:=(hp.map _).nodup_iff.2 hn
 have hA:Cp.Asc ltV (S.map (vals by_ lang)):=by
  unfold Cp.Asc;rw[Hc];rw[List.Nodup,Hc]at hnS;refine (hs.and hnS).imp fun {x y} ⟨h1,h2⟩=>?_;exact ordV.tot h1 fun e=>h2 QK
 rw[<- Cp.puts_of ordV hA fun z=>(hp.map _).mem_iff,DF];exact I8 fun x _=>(vals_id by_ lang x).symm
def insR (by_:Int) (lang:By):List Rd->Rd->List Rd
 | [],x=>[x]
 | y::r,x=>if ltV (vals by_ lang x) (vals by_ lang y)=true then x::y::r else y::insR by_ lang r x
theorem insR_map {by_:Int}{lang:By}{x:Rd}:∀ (l:List Rd),(∀ y∈l,y.id≠x.id)->(insR by_ lang l x).map (vals by_ lang)=D1 ltV (l.map (vals by_ lang)) (vals by_ lang x)
 | [],_=>rfl
 | y::r,h=>by
  have hy:=h y B8;have hne:vals by_ lang y≠vals by_ lang x:=fun e=>hy QK;have ih:=insR_map (by_:=by_) (lang:=lang) (x:=x) r fun z hz=>h z (List.mem_cons_of_mem _ hz);rw[BX,D1,insR];by_cases h1:ltV (vals by_ lang x) (vals by_ lang y)=true
  ·have h2:¬ ltV (vals by_ lang y) (vals by_ lang x)=true:=fun h9=>by
    have:=ordV.tr h1 h9;rw[ordV.irr]at this;cases this
   rw[if_pos h1,if_neg h2,if_neg hne];rfl
  ·have h2:ltV (vals by_ lang y) (vals by_ lang x)=true:=ordV.tot UG (fun e=>hne e.symm);rw[if_neg h1,if_pos h2,BX,ih]
theorem insR_perm {by_:Int}{lang:By}{x:Rd}:∀ (l:List Rd),(insR by_ lang l x).Perm (x::l)
 | []=>Gw _
 | y::r=>by
  unfold insR;split
  ·exact Gw _
  ·exact ((insR_perm r).cons y).trans (List.Perm.swap x y r)
theorem insR_at {by_:Int}{lang:By}{x:Rd}:∀ (l:List Rd) (k:Nat),k<=l.length->(∀ j y,j<k->l[j]?=A3 y->ltV (vals by_ lang x) (vals by_ lang y)=false)->(∀ y,l[k]?=A3 y->ltV (vals by_ lang x) (vals by_ lang y)=true)->insR by_ lang l x=l.take k++x::l.drop k
 | [],k,hk,_,_=>by
  have:k=0:=by simpa using hk
  subst this;rfl
 | y::r,0,_,_,h2=>by
  rw[insR,if_pos (h2 y rfl)];rfl
 | y::r,k+1,hk,h1,h2=>by
  have ih:=insR_at (by_:=by_) (lang:=lang) (x:=x) r k qX (fun j z hj hz=>h1 (j+1) z oQ uQ) (fun z hz=>h2 z uQ);rw[insR,if_neg (by rw[h1 0 y oQ rfl];decide),ih];rfl
def fold (by_:Int) (lang:By) (ids:List Int) (l:List Rd):List Rd:=(l.filter fun r=>decide (r.id∈ids)).foldl (insR by_ lang) []
theorem fold_take {by_:Int}{lang:By}{ids:List Int}{l:List Rd}{k:Nat}{r:Rd} (h:l[k]?=A3 r) :
  fold by_ lang ids (l.take (k+1))=if r.id∈ids then insR by_ lang (fold by_ lang ids (l.take k)) r else fold by_ lang ids (l.take k):=by
 unfold fold;rw[List.take_add_one,h,List.filter_append,List.foldl_append];by_cases h1:r.id∈ids
 ·rw[if_pos h1];simp[h1]
 ·rw[if_neg h1];simp[h1]
theorem fold_map (by_:Int) (lang:By):∀ (l acc:List Rd),((acc++l).map (·.id)).Nodup->(l.foldl (insR by_ lang) acc).map (vals by_ lang)=(l.map (vals by_ lang)).foldl (D1 ltV) (acc.map (vals by_ lang))
 | [],acc,_=>rfl
 | x::l,acc,h=>by
  have hp:(insR by_ lang acc x++l).Perm (acc++x::l):=((insR_perm acc).append_right l).trans (by rw[List.cons_append];exact List.perm_middle.symm)
  have h1:∀ y∈acc,y.id≠x.id:=fun y hy e=>by
   rw[List.map_append,List.nodup_append]at h;exact h.2.2 y.id (BG.2 ⟨y,hy,rfl⟩) x.id oZ e
  rw[List.foldl_cons,fold_map by_ lang l _ ((hp.map _).nodup_iff.2 h),insR_map acc h1];rfl
theorem order_fold {by_:Int}{lang:By}{ids:List Int}{l:List Rd} (hn:(l.map (·.id)).Nodup):(fold by_ lang ids l).map (·.id)=order l ids by_ lang:=by
 have hn2:((l.filter fun r=>decide (r.id∈ids)).map (·.id)).Nodup:=List.Nodup.sublist (List.Sublist.map _ List.filter_sublist) hn;have h:=fold_map by_ lang (l.filter fun r=>decide (r.id∈ids)) [] (by simpa using hn2);rw[List.map_nil]at h;unfold fold order BP;rw[<- h,DF];exact I8 fun x _=>(vals_id by_ lang x).symm
section
variable {α : Type} {lt : α -> α -> Bool}
def InsJ (lt:α->α->Bool) (i j:Nat) (L:List α):Prop :=
 ∃ (A:List α) (x:α) (B C:List α),L=A++x::(B++C)/\A.length=j/\A.length+B.length=i/\(A++B).Pairwise (fun p q=>lt q p=false)/\∀ b∈B,lt x b=true
def Srt (lt:α->α->Bool) (L:List α):Prop:=L.Pairwise fun p q=>lt q p=false
theorem insJ_start {i:Nat}{L:List α} (hi:i<L.length) (h:Srt lt (L.take i)):InsJ lt i i L:=by
 refine⟨L.take i,L[i],[],L.drop (i+1),?_,by rw[Az];omega,by rw[Az,List.length_nil];omega,by rw[List.append_nil];exact h,fun b hb=>by cases hb⟩;rw[List.nil_append,<- List.drop_eq_getElem_cons hi,List.take_append_drop]
theorem set_two {A R:List α}{y x:α}:((A++y::x::R).set (A.length+1) y).set A.length x=A++x::y::R:=by
 rw[List.set_append_right _ _ oQ,show A.length+1 - A.length=1 by omega];show (A++y::y::R).set A.length x=_;rw[List.set_append_right _ _ (Ad _),F9];rfl
theorem insJ_two {i jp:Nat}{L:List α} (h:InsJ lt i (jp+1) L):∃ (A:List α) (y x:α) (B C:List α),L=A++y::x::(B++C)/\A.length=jp/\jp+1+B.length=i/\(A++y::B).Pairwise (fun p q=>lt q p=false)/\∀ b∈B,lt x b=true:=by
 obtain⟨A,x,B,C,rfl,h1,h2,h3,h4⟩:=h;have hne:A≠[]:=by intro e;rw[e]at h1;cases h1
 refine⟨A.dropLast,A.getLast hne,x,B,C,?_,by rw[List.length_dropLast];omega,oQ,?_,h4⟩
 ·conv=>lhs;rw[<- Gy hne]
  rw[AW];rfl
 ·have e:A.dropLast++A.getLast hne::B=A++B:=by
   conv=>rhs;rw[<- Gy hne]
   rw[AW];rfl
  rw[e];exact h3
theorem insJ_step {i jp:Nat}{L:List α}{xj xp:α} (h:InsJ lt i (jp+1) L) (hj:L[jp+1]?=A3 xj) (hp:L[jp]?=A3 xp) (hlt:lt xj xp=true):InsJ lt i jp ((L.set (jp+1) xp).set jp xj)/\((L.set (jp+1) xp).set jp xj).Perm L:=by
 obtain⟨A,y,x,B,C,rfl,h1,h2,h3,h4⟩:=insJ_two h;subst h1
 have e1:xj=x:=by
  rw[BE oQ,show A.length+1 - A.length=1 by omega]at hj;injection hj with hj;exact hj.symm
 have e2:xp=y:=by
  rw[BE (Ad _),F9]at hp;injection hp with hp;exact hp.symm
 subst e1 e2;rw[set_two];refine⟨⟨A,xj,xp::B,C,rfl,rfl,by rw[List.length_cons];omega,h3,fun b hb=>?_⟩,?_⟩
 ·rcases AL.1 hb with rfl | hb
  ·exact hlt
  ·exact h4 b hb
 ·exact (List.Perm.swap xp xj _).append_left A
theorem insJ_stop (ntr:∀ x y z,lt x y=false->lt y z=false->lt x z=false) (asy:∀ x y,lt x y=true->lt y x=false) {i j:Nat}{L:List α} (h:InsJ lt i j L) (hs:j=0\/∃ xj xp,L[j]?=A3 xj/\L[j - 1]?=A3 xp/\lt xj xp=false):Srt lt (L.take (i+1)):=by
 obtain⟨A,x,B,C,rfl,h1,h2,h3,h4⟩:=h
 have e:(A++x::(B++C)).take (i+1)=A++x::B:=by
  have:A++x::(B++C)=(A++x::B)++C:=oZ;rw[this,List.take_left' oW]
 rw[e];obtain⟨p1,p2,p3⟩:=LY.1 h3;refine List.pairwise_append.2 ⟨p1,List.pairwise_cons.2 ⟨fun b hb=>asy _ _ (h4 b hb),p2⟩,fun a ha b hb=>?_⟩;rcases AL.1 hb with rfl | hb
 ·rcases hs with h0 | ⟨xj,xp,hj,hp,hlt⟩
  ·rw[h0]at h1;have:=Ar h1;rw[this]at ha;cases ha
  ·have hj2:xj=b:=by
    rw[BE oQ,h1,F9]at hj;injection hj with hj;exact hj.symm
   subst hj2;by_cases h0:A=[]
   ·rw[h0]at ha;cases ha
   ·have hl:A.length≠0:=fun e=>h0 (Ar e)
    have hp2:A.getLast h0=xp:=by
     rw[List.getElem?_append_left oQ,<- h1,<- List.getLast?_eq_getElem?,List.getLast?_eq_some_getLast h0]at hp;injection hp
    by_cases hal:a=xp
    ·rw[hal];exact hlt
    ·refine ntr _ _ _ hlt ?_;have e2:A=A.dropLast++[xp]:=by rw[<- hp2];exact (Gy h0).symm
     rw[e2]at ha p1;have p4:=(LY.1 p1).2.2;rcases List.mem_append.1 ha with ha | ha
     ·exact p4 a ha xp B8
     ·rw[List.mem_singleton]at ha;exact absurd ha hal
 ·exact p3 a ha b hb
end
theorem ord_ntr {α β:Type}{lt:β->β->Bool} (o:Cp.Ord lt) (f:α->β):∀ x y z:α,lt (f x) (f y)=false->lt (f y) (f z)=false->lt (f x) (f z)=false:=fun x y z h1 h2=>by
 rw[CV];intro h3;by_cases e:f y=f z
 ·rw[e,h3]at h1;cases h1
 ·have h4:=o.tot h2 e;have h5:=o.tr h3 h4;rw[h1]at h5;cases h5
theorem ord_asy {α β:Type}{lt:β->β->Bool} (o:Cp.Ord lt) (f:α->β):∀ x y:α,lt (f x) (f y)=true->lt (f y) (f x)=false:=fun x y h=>by
 rw[CV];intro h3;have:=o.tr h h3;rw[o.irr]at this;cases this
end Sr
section
open Go.Shelf
namespace Sr
structure Dk {α:Type} (enc:α->List Ak) (k:Nat) (e:Bo) (w:Ab) (g:Nat) (L:List α):Prop where
 cells:∀ (j:Nat) (t:α),L[j]?=A3 t->∀ (i:Nat) (u:Ak),(enc t)[i]?=A3 u->w.cell? ⟨g,j*k+i,A0⟩=A3 u
 blk:∃ cur,w.heap[g]?=A3 (.cells cur e (0,0))
section
variable {α : Type} {enc : α -> List Ak} {k : Nat} {e : Bo} {w w' : Ab} {g : Nat} {L : List α}
theorem Dk.lt (h:Dk enc k e w g L):g<w.heap.size:=by
 obtain⟨cur,hc⟩:=h.blk;exact (Array.getElem?_eq_some_iff.1 hc).1
theorem Dk.frozen (h:Dk enc k e w g L) (o:Nat):w.frozen? ⟨g,o,A0⟩=false:=by
 obtain⟨cur,hc⟩:=h.blk;simp[World.frozen?,hc]
theorem Dk.of_block (h:Dk enc k e w g L) (hb:w'.heap[g]?=w.heap[g]?):Dk enc k e w' g L :=
 ⟨fun j t hj i u hu=>(World.cell?_of_block hb).trans (h.cells j t hj i u hu),by rw[hb];exact h.blk⟩
theorem Dk.below (h:Dk enc k e w g L) (hb:Below w.heap.size w w'):Dk enc k e w' g L:=h.of_block (hb.block g h.lt)
theorem dk_blk {e:Bo}{g:Nat}:∀ (vs:List Ak) (o:Nat) (w:Ab),(∃ cur,w.heap[g]?=A3 (.cells cur e (0,0)))->∃ cur,(w.setCells g o vs).heap[g]?=A3 (.cells cur e (0,0))
 | [],_,_,h=>h
 | v::r,o,w,⟨cur,h⟩=>dk_blk r (o+1) _ ⟨_,heap_setCell_same w g o cur e v h⟩
theorem Dk.set (h:Dk enc k e w g L) (hk:∀ x,(enc x).length=k) {m:Nat}{old t:α} (hm:L[m]?=A3 old):Dk enc k e (w.setCells g (m*k) (enc t)) g (L.set m t):=by
 refine⟨fun j x hj i u hu=>?_,dk_blk _ _ _ h.blk⟩;have hml:m<L.length:=(Av.1 hm).1;have hik:i<k:=by rw[<- hk x];exact (Av.1 hu).1
 by_cases e9:m=j
 ·subst e9;rw[List.getElem?_set_self hml]at hj;injection hj with hj;subst hj
  have:=World.cell?_setCells_in g (enc t) (m*k) w (fun q hq=>by
   have hq4:q<(enc old).length:=by rw[hk];rw[hk]at hq;exact hq
   rw[h.cells m old hm q ((enc old)[q]'hq4) (Ai _)];rfl) i (by rw[hk];exact hik)
  rw[this,<- hu,Ai]
 ·rw[List.getElem?_set_ne e9]at hj
  have hne:j*k+i<m*k\/m*k+k<=j*k+i:=by
   rcases (by omega:j<m\/m<j) with h9 | h9
   ·have:=Hh k (show j+1<=m from h9);rw[Gc]at this;exact .inl oQ
   ·have:=Hh k (show m+1<=j from h9);rw[Gc]at this;exact .inr oQ
  rw[World.cell?_setCells_out g _ _ _ _ (fun _ _=>by rw[hk];omega)];exact h.cells j x hj i u hu
theorem Dk.load (P:Program) (h:Dk enc k e w g L) (hk:∀ x,(enc x).length=k) {j:Nat}{t:α} (hj:L[j]?=A3 t):Ky P (Ic ⟨g,j*k,A0⟩ 0 k #[]) w=.ok (enc t).toArray w :=
 run_loadCellsFrom_list P w ⟨g,j*k,A0⟩ (enc t) k (hk t) fun i u hu=>by rw[Cs.add_at];exact h.cells j t hj i u hu
theorem Dk.store (P:Program) (h:Dk enc k e w g L) (hk:∀ x,(enc x).length=k) (h1:∀ x,∀ v∈enc x,v.oneCell'=true) {j:Nat}{t:α} (hj:L[j]?=A3 t) (x:α):Ky P (storeCells ⟨g,j*k,A0⟩ (enc x) 0) w=.ok () (w.setCells g (j*k) (enc x)):=by
 have:=run_storeCells_cells (P:=P) g (j*k) (enc x) 0 w (fun i hi=>by
  have hi2:i<(enc t).length:=by rw[hk];rw[hk]at hi;exact hi
  rw[BN,h.cells j t hj i _ (Ai hi2)];rfl) (fun i _=>h.frozen _) (h1 x)
 rw[BN]at this;exact this
theorem fr_sets {a:Ab}:∀ (vs:List Ak) (o:Nat) (w:Ab),AF g a w->AF g a (w.setCells g o vs)
 | [],_,_,h=>h
 | v::r,o,_,h=>fr_sets r (o+1) _ (h.set (p:=⟨g,o,A0⟩) rfl v)
end
section
variable {ρ : Ren} {α : Type}
theorem vjq (h:P:=by
 go_wp2
 go_region_held3 (fun w'=>Below wr.heap.size wr w'/\Ky A8 (Ic ⟨blk,(jp+1)*k,A0⟩ 0 k #[]) w'=.ok cJ.toArray w'/\Ky A8 (Ic ⟨blk,jp*k,A0⟩ 0 k #[]) w'=.ok cP.toArray w')
  (first | exact⟨(Ah _ _).drew,HLJ.out _ (Ah _ _).drew,HLP.out _ (Ah _ _).drew⟩ | (go_split_ands;exact⟨Tx.step ‹_› hbx,HLJ.out _ (Tx.step ‹_› hbx),HLP.out _ (Tx.step ‹_› hbx)⟩))
  (first | (go_split_ands;go_at_fn g;refine (HCC.out _ ‹_›).mono ?_;rintro e wx ⟨rfl,hbx⟩))
 go_split_ands;have hbx9:=zmi
 first
  |have hx9:=hbx9.size
   have HDX:=J (HD2.out.below hbx9);have HBX:=J (HB2.out.trans (.of_below hbx9));go_wp2_with fail
   have lj2:Ky A8 (Ic ⟨blk,(jp+1)*k,A0⟩ 0 k #[]) wx.drew=.ok cJ.toArray wx.drew:=by
    have:Dk enc k ty wx.drew blk M:=HDX.out.of_block rfl;rw[HCJ.out];exact this.load A8 HK.out HXJ.out
   have lp2:Ky A8 (Ic ⟨blk,jp*k,A0⟩ 0 k #[]) wx.drew=.ok cP.toArray wx.drew:=by
    have:Dk enc k ty wx.drew blk M:=HDX.out.of_block rfl;rw[HCP.out];exact this.load A8 HK.out HXP.out
   have HDZ:Hid (Dk enc k ty (wx.drew.setCells blk ((jp+1)*k) cP) blk (M.set (jp+1) xp)):=J (by
    have:Dk enc k ty wx.drew blk M:=HDX.out.of_block rfl;rw[HCP.out];exact this.set HK.out HXJ.out)
   have s1:Ky A8 (storeCells ⟨blk,(jp+1)*k,A0⟩ cP 0) wx.drew=.ok () (wx.drew.setCells blk ((jp+1)*k) cP):=by
    have:Dk enc k ty wx.drew blk M:=HDX.out.of_block rfl;rw[HCP.out];exact this.store A8 HK.out H1.out HXJ.out xp
   have s2:Ky A8 (storeCells ⟨blk,jp*k,A0⟩ cJ 0) (wx.drew.setCells blk ((jp+1)*k) cP)=.ok () ((wx.drew.setCells blk ((jp+1)*k) cP).setCells blk (jp*k) cJ):=by
    rw[HCJ.out];exact HDZ.out.store A8 HK.out H1.out (t:=xp) QG xj
   have hsJ:cJ.length=k:=by rw[HCJ.out];exact HK.out _
   have hsP:cP.length=k:=by rw[HCP.out];exact HK.out _
   clear lj lp;go_big_region_o
   all_goals go_wp2
   go_roundg jp
   case measure=>omega
   case rel =>
    have hst:=insJ_step HJ.out HXJ.out HXP.out (by rw[HLV.out];exact decide_eq_true hlv);refine⟨jp,(M.set (jp+1) xp).set jp xj,by first | rfl | go_num,oQ,Ad _,by simpa using hMl,J (hst.2.trans HP2.out),J hst.1,J ?_,J ?_⟩
    ·rw[HCJ.out];exact HDZ.out.set HK.out (old:=xp) QG
    ·exact fr_sets _ _ _ (fr_sets _ _ _ HBX.out.drew)
  |clear lj lp
   go_wp2;go_roundg (T.length - (i+1))
   case measure=>omega
   case rel=>exact⟨i+1,M,by go_num,oQ,oQ,oQ,hMl,HP2,J (insJ_stop HNT.out HAS.out HJ.out (.inr ⟨xj,xp,HXJ.out,by rw[Nat.add_sub_cancel];exact HXP.out,by rw[HLV.out];exact decide_eq_false oQ⟩)),J (HD2.out.below hbx9),J (HB2.out.trans (.of_below hbx9))⟩):P:=h
theorem insertion (L:SlLaysF0.n20 A8 ρ) (k:Nat) (aE:∀ w,(isAgg (ρ.t 24)).run A8 w=.ok true w) (zE:∀ w,(Go.sizeOf (ρ.t 24)).run A8 w=.ok k w) (enc:α->List Ak) (hk:∀ x,(enc x).length=k) (h1:∀ x,∀ v∈enc x,v.oneCell'=true)
  (cf:α->α->Int) (lt:α->α->Bool) (hlt:∀ x y,lt x y=decide (cf x y<0)) (ntr:∀ x y z,lt x y=false->lt y z=false->lt x z=false) (asy:∀ x y,lt x y=true->lt y x=false)
  (g:Nat) (cb:Array Ak) (blk cap:Nat) (T:List α) (ty:Bo) (w0 w:Ab) (eg:∀ args w,(callFunc g args).run A8 w=.ok (.enter g args) w)
  (hcmp:∀ x∈T,∀ y∈T,∀ W,AF blk w0 W->Af A8 g (#[.agg (enc x).toArray,.agg (enc y).toArray]++cb) W fun e w'=>e=.returned (.int .i64 (cf x y))/\Below W.heap.size W w')
  (hb:AF blk w0 w) (hD:Dk enc k ty w blk T) (hn:T.length<=1000) :
  Af A8 (ρ.f 20) #[.slice (A3 ⟨blk,0,A0⟩) T.length cap,.int .i64 0,.int .i64 T.length,.func (.func g) #[] cb] w fun e w'=>e=.returned (.tuple #[])/\∃ S:List α,S.Perm T/\Srt lt S/\Dk enc k ty w' blk S/\AF blk w0 w':=by
 have mixed:=L.mixed;have t0:=L.t0;have a0:=L.a0;have z0:=L.z0;have v0:=L.v0;have t3:=L.t3;have a3:=L.a3;have z3:=L.z3;have v3:=L.v3;have t4:=L.t4;have a4:=L.a4;have z4:=L.z4;have v4:=L.v4;have t22:=L.t22;have a22:=L.a22;have z22:=L.z22;have v22:=L.v22;have t25:=L.t25;have a25:=L.a25;have z25:=L.z25;have v25:=L.v25;have u22:=run_underlying L.t22;obtain⟨nm20,_,F20⟩:=L.f20;have HC:=J hcmp;have HD0:=J hD;have HK:=J hk;have H1:=J h1;have HLT:=J hlt;have HNT:=J ntr;have HAS:=J asy;clear hcmp hD hk h1 hlt ntr asy;go_enter F20,SlBodyF.n20_ntmps ρ;go_wp2;go_loopg [8] T.length (fun g1 vi wr=>∃ (i:Nat) (S:List α),vi=.int .i64 i/\1<=i/\i<=T.length+1/\T.length+1 - i<=g1+1/\S.length=T.length/\Hid (S.Perm T)/\Hid (Srt lt (S.take i))/\Hid (Dk enc k ty wr blk S)/\Hid (AF blk w0 wr))
 case atStart=>exact⟨1,T,by go_num,Ad _,oQ,oQ,rfl,J (Gw _),J (by
  unfold Srt;cases T with
  | nil=>exact List.Pairwise.nil
  | cons x r=>exact List.pairwise_singleton _ _),HD0,J hb⟩
 case round =>
  obtain⟨i,S,rfl,hi1,hi2,hg1,hSl,HP,HS,HD,HB⟩:=hrel;by_cases hlt:i<T.length
  ·have hltz:(i:Int)<(T.length:Int):=oQ;go_wp2;go_loopg [9] i (fun g2 vj wr2=>∃ (j:Nat) (M:List α),vj=.int .i64 j/\j<=i/\j<=g2/\M.length=T.length/\Hid (M.Perm T)/\Hid (InsJ lt i j M)/\Hid (Dk enc k ty wr2 blk M)/\Hid (AF blk w0 wr2))
   case atStart=>exact⟨i,S,rfl,Ad _,Ad _,hSl,HP,J (insJ_start oQ HS.out),HD,HB⟩
   case round =>
    obtain⟨j,M,rfl,hji,hg2,hMl,HP2,HJ,HD2,HB2⟩:=hrel;by_cases hja:0<j
    ·obtain⟨jp,rfl⟩:∃ jp,j=jp+1:=⟨j - 1,oQ⟩;obtain⟨xj,hxj⟩:∃ x,M[jp+1]?=A3 x:=⟨_,Ai oQ⟩;obtain⟨xp,hxp⟩:∃ x,M[jp]?=A3 x:=⟨_,Ai oQ⟩;have hwp:IntKind.i64.wrap (jp:Int)=(jp:Int):=by rw[IntKind.wrap_i64];omega
     have jz:(jp:Int)+1<(T.length:Int):=oQ;have jz1:(jp:Int)<(T.length:Int):=oQ;have hjaz':(0:Int)<(jp:Int)+1:=oQ;have p0:(0:Int)<=(jp:Int)+1:=oQ;have e0:((jp:Int)+1).toNat=jp+1:=oQ;have lj:=HD2.out.load A8 HK.out hxj;have lp:=HD2.out.load A8 HK.out hxp;have HLJ:=J fun W (h:Below wr.heap.size wr W)=>(HD2.out.below h).load A8 HK.out hxj;have HLP:=J fun W (h:Below wr.heap.size wr W)=>(HD2.out.below h).load A8 HK.out hxp;have HCC:=J fun W (h:Below wr.heap.size wr W)=>HC.out xj (HP2.out.mem_iff.1 (AJ hxj)) xp (HP2.out.mem_iff.1 (AJ hxp)) W (HB2.out.trans (.of_below h));have HXJ:=J hxj;have HXP:=J hxp;clear hxj hxp;obtain⟨cv,hcv⟩:∃ cv,cf xj xp=cv:=⟨_,rfl⟩;have hl:=HLT.out xj xp;rw[hcv]at hl HCC;have HLV:=J hl;clear hl hcv;obtain⟨cJ,hcJ⟩:∃ c,c=enc xj:=⟨_,rfl⟩;obtain⟨cP,hcP⟩:∃ c,c=enc xp:=⟨_,rfl⟩;rw[<- hcP]at lp HLP HCC;rw[<- hcJ]at lj HLJ HCC;have HCJ:=J hcJ;have HCP:=J hcP;clear hcJ hcP;by_cases hlv:cv<0
     ·exact vjq
     ·exact vjq
    ·obtain rfl:j=0:=oQ;have hjaz:decide (((0:Nat):Int) > (0:Int))=false:=rfl;have HST:Hid (Srt lt (M.take (i+1))):=J (insJ_stop HNT.out HAS.out HJ.out (.inl rfl));go_wp2_with fail;go_big_region_o
     all_goals go_wp2
     go_roundg (T.length - (i+1))
     case measure=>omega
     case rel=>exact⟨i+1,M,by go_num,oQ,oQ,oQ,hMl,HP2,HST,J (HD2.out.of_block rfl),J (HB2.out.drew)⟩
  ·have hltz:¬ (i:Int)<(T.length:Int):=oQ;go_wp2;go_end0;exact⟨rfl,S,HP.out,by have:=HS.out;rwa [List.take_of_length_le oQ]at this,HD.out,HB.out⟩
end
open Rc
theorem Dk.of_own {α:Type}{enc:α->List Ak}{k:Nat}{e:Bo}{w:Ab}{B g n cap:Nat}{T:List α} (hk:∀ x,(enc x).length=k) (h:w.ownsRow B e k (.slice (A3 ⟨g,0,A0⟩) n cap) n (T.flatMap enc)) (hn:n=T.length):Dk enc k e w g T:=by
 obtain⟨a,c,e1,h1,_⟩:=Br.FA.of_own hk h hn;injection e1 with e1 e2 e3;refine⟨fun j t hj i u hu=>?_,?_⟩
 ·obtain⟨b,o,e4,_,h5⟩:=h1.get hj;rw[<- e1]at e4;injection e4 with e4;injection e4 with e4 e6;subst e4 e6;have:=h5 i u hu
  rwa [Ct]at this
 ·rcases h.2 with⟨e9,_⟩ | ⟨g',cap',cur,e9,_,h3,_⟩
  ·cases e9
  ·injection e9 with e9;injection e9 with e9;injection e9 with e9;subst e9;exact⟨cur,h3⟩
theorem Dk.fa {α:Type}{enc:α->List Ak}{k:Nat}{e:Bo}{w:Ab}{g cap:Nat}{S:List α} (h:Dk enc k e w g S) (hc:S.length<=cap) (hm:cap<=maxLen):Br.FA enc k w (A3 ⟨g,0,A0⟩) cap S :=
 ⟨hc,hm,g,0,fun _=>⟨rfl,h.lt⟩,fun j i x u hx hu=>by rw[Ct];exact h.cells j x hx i u hu⟩
end Sr
theorem recPdq_c (cf:Im->Im->Int) (lt:Im->Im->Bool) (hlt:∀ x y,lt x y=decide (cf x y<0)) (ntr:∀ x y z,lt x y=false->lt y z=false->lt x z=false) (asy:∀ x y,lt x y=true->lt y x=false)
  (g:Nat) (cb:Array Ak) (blk cap:Nat) (lim:Ak) (T:List Im) (w0 w:Ab) (eg:∀ args w,(callFunc g args).run A8 w=.ok (.enter g args) w)
  (hcmp:∀ x∈T,∀ y∈T,∀ W,AF blk w0 W->Af A8 g (#[.agg (Bs x).toArray,.agg (Bs y).toArray]++cb) W fun e w'=>e=.returned (.int .i64 (cf x y))/\Below W.heap.size W w')
  (hb:AF blk w0 w) (hD:Sr.Dk Bs 5 51 w blk T) (hn:T.length<=12) :
  Af A8 101 #[.slice (A3 ⟨blk,0,A0⟩) T.length cap,.int .i64 0,.int .i64 T.length,lim,.func (.func g) #[] cb] w fun e w'=>e=.returned (.tuple #[])/\∃ S:List Im,S.Perm T/\Sr.Srt lt S/\Sr.Dk Bs 5 51 w' blk S/\AF blk w0 w':=by
 have IC:Af A8 169 #[.slice (A3 ⟨blk,0,A0⟩) T.length cap,.int .i64 0,.int .i64 T.length,.func (.func g) #[] cb] w fun e w'=>e=.returned (.tuple #[])/\∃ S:List Im,S.Perm T/\Sr.Srt lt S/\Sr.Dk Bs 5 51 w' blk S/\AF blk w0 w' :=
  Sr.insertion { Tryz.sortRec with } 5 Tryz.isAgg51 Tryz.sizeOf51 Bs Rc.encR_len Rc.r_one cf lt hlt ntr asy g cb blk cap T 51 w0 w eg hcmp hb hD oQ
 have HI:=J IC;clear IC hlt ntr asy hcmp hD hb;go_enter Tryz.func101,Tryz.ntmps101;go_wp2;go_loopw [1,2] (fun a b wr=>a=.int .i64 0/\b=.int .i64 T.length/\wr=w) (fun _ _ _=>0)
 case atStart=>exact⟨rfl,rfl,rfl⟩
 case round =>
  obtain⟨rfl,rfl,rfl⟩:=hrel;have hle:(T.length:Int)<=12:=oQ;go_wp2_with (go_at_call 169;(with_reducible refine HI.out.mono ?_);rintro e w1 ⟨rfl,hS⟩)
  (try simp only[Exit.inBlock,Exit.then]);refine bodyPost_ret (results_none rfl _ _ _) rfl ?_
  exact⟨rfl,hS⟩
theorem recSort_c (cf:Im->Im->Int) (lt:Im->Im->Bool) (hlt:∀ x y,lt x y=decide (cf x y<0)) (ntr:∀ x y z,lt x y=false->lt y z=false->lt x z=false) (asy:∀ x y,lt x y=true->lt y x=false)
  (g:Nat) (cb:Array Ak) (v:Ak) (B:Nat) (T:List Im) (w:Ab) (eg:∀ args w,(callFunc g args).run A8 w=.ok (.enter g args) w)
  (hcmp:∀ blk,v.ownBlock=A3 blk->∀ x∈T,∀ y∈T,∀ W,AF blk w W->Af A8 g (#[.agg (Bs x).toArray,.agg (Bs y).toArray]++cb) W fun e w'=>e=.returned (.int .i64 (cf x y))/\Below W.heap.size W w')
  (hown:w.ownsRow B 51 5 v T.length (T.flatMap Bs)) (hn:T.length<=12) :
  Af A8 44 #[v,.func (.func g) #[] cb] w fun e w'=>e=.returned (.tuple #[])/\∃ (S:List Im) (a:Option Addr) (c:Nat),S.Perm T/\Sr.Srt lt S/\v=.slice a S.length c/\Br.FA Bs 5 w' a c S/\w.grownBy w' v.ownBlock:=by
 rcases hown.2 with⟨rfl,h0⟩ | ⟨blk,cap,cur,rfl,hbase,hbk,g1,g2,g3,g4⟩
 ·have hnil:=zox;subst hnil;refine (AnyF.slices_SortFunc_none Tryz.sortRec A0 0 (.func (.func g) #[] cb) w).mono fun e w' ⟨he,hw⟩=>?_;subst hw;exact⟨he,[],A0,0,Gw _,List.Pairwise.nil,rfl,⟨Ad _,Nat.zero_le _,0,0,fun h=>absurd rfl h,fun j i x u hx=>by simp at hx⟩,⟨rfl,rfl,rfl,Ad _,fun _ _ _=>rfl⟩⟩
 ·have hD:=Sr.Dk.of_own Rc.encR_len hown rfl;have PC:=fun lim W (h:Below w.heap.size w W)=>recPdq_c cf lt hlt ntr asy g cb blk cap lim T w W eg (hcmp blk rfl) (.of_below h) (hD.below h) hn;have HP:=J PC
  have LC:∀ W,Af A8 102 #[.int .u64 T.length] W fun e w'=>∃ q:Int,e=.returned (.int .i64 q)/\Below W.heap.size W w':=fun W=>by
   have h:=Tryz.bits_Len (T.length:Int) W oQ oQ
   exact h.mono fun e w' h9=>by
    obtain⟨h1,h2⟩:=h9;exact⟨_,h1,by first | (rw[h2];exact Ah _ _) | (obtain⟨q,rfl⟩:=h2;exact Tx.below_drewN (Ah _ _) q)⟩
  have HL:=J LC;clear PC LC hlt ntr asy hcmp hD hown hbk g3 g4;go_enter Tryz.func44,Tryz.ntmps44
  go_wp2_with (first
   |(go_at_call 101;(with_reducible refine (HP.out _ _ hb1).mono ?_);rintro e w2 ⟨rfl,hS⟩)
   |(go_at_call 102;(with_reducible refine (HL.out _).mono ?_);rintro e w1 ⟨q,rfl,hb1⟩))
  go_end0;obtain⟨S,hp,hs,hd,hbb⟩:=hS;exact⟨rfl,S,_,cap,hp,hs,by rw[hp.length_eq],hd.fa (by rw[hp.length_eq];exact g1) g2,⟨hbb.os,hbb.tape,hbb.output,hbb.size,fun k hk hne=>hbb.block k (fun e=>hne iQ) hk⟩⟩
end
namespace Cs
theorem put_scan {α:Type} [DecidableEq α] (lt:α->α->Bool) (x:α):∀ (xs:List α) (k:Nat),k<=xs.length->(∀ j,j<k->∀ y,xs[j]?=A3 y->lt y x=true)->(∀ y,xs[k]?=A3 y->lt y x=false)->D1 lt xs x=if xs[k]?=A3 x then xs else xs.take k++x::xs.drop k
 | [],k,hk,_,_=>by simp[D1]
 | y::r,0,_,_,h2=>by
  have h3:lt y x=false:=h2 y rfl;unfold D1;rw[h3];by_cases hyx:y=x
  ·simp[hyx]
  ·simp[hyx]
 | y::r,k+1,hk,h1,h2=>by
  have h3:lt y x=true:=h1 0 oQ y rfl;have ih:=put_scan lt x r k qX (fun j hj z hz=>h1 (j+1) oQ z uQ) (fun z hz=>h2 z uQ);unfold D1;rw[if_pos h3,ih];by_cases hx:r[k]?=A3 x
  ·simp[hx]
  ·simp[hx]
end Cs
theorem info_i64s:(A8.info? 3).map (fun i=>(i.zero,i.size,i.bytes))=A3 (A3 (.int .i64 0),1,8):=by kernel_rfl
theorem y14 (h:P:=by
 rw[<- hvl]at hown3;refine⟨vb,0,vc,congrArg (fun m=>Ending.returned (.slice (A3 ⟨vb,0,A0⟩) m vc)) hll.symm,Cs.LA.of_own hown3 hll.symm,.inr (hown3.lt vb rfl).1,hb3⟩):P:=h
theorem yt8 (h:P:=by
 rcases hown3.2 with⟨h0,_⟩ | ⟨vb,vc,cur,rfl,_⟩
 ·exact absurd (hnil3.1 h0).1 (fun e=>by have:=(hnil2.1 e).2;omega)
 ·go_ret;have hll:(D1 Bf xs n).length=0+xs.length+1+0:=by rw[HP.out];first | (simp;done) | (simp;omega)
  have hvl:(D1 Bf xs n).map (B3 .i64)=[]++(xs.take xs.length).map (B3 .i64)++[.int .i64 n]++[]:=by rw[HP.out];simp
  exact y14):P:=h
theorem vkc (h:P:=by
 have hkl0:(xs.length:Int)<=(xs.length:Int):=oQ;have hlen1:((xs.take xs.length).map (B3 .i64)).length=xs.length*1:=by first | (simp;done) | (simp;omega)
 have hlen3:((xs.drop xs.length).map (B3 .i64)).length=(xs.length - xs.length)*1:=oZ
 have hone:∀ l:List Int,∀ u∈l.map (B3 .i64),u.oneCell'=true:=fun l u hu=>by
  obtain⟨x,_,rfl⟩:=BG.1 hu;rfl
 have HL1:=J hlen1;clear hlen1;clear hlen3 hkl0;have HONE:=J hone;clear hone
 first
  |go_wp2_with (first
    |(at_builtin;refine Cy _ rfl _ _ 35 rfl wr.heap.size 3 i0 (.int .i64 0) 1 8 Bk hi0 hz0 hz1 hz2 rfl oX _ 0 [] rfl (Eo (base:=wr.heap.size) (e:=3) (size:=1) wr #[] 0 oZ oK rfl) ⟨b,o,A0⟩ xs.length _ ((xs.take xs.length).map (B3 .i64)) rfl HL1.out (h.cellsT (Tx.newb _ _) xs.length) (HONE.out _) oK oQ oZ ?_;intro v1 w1 hown1 hg1 hnil1;have hb1:=zci)
    |(at_builtin;refine Cy _ rfl _ _ 35 rfl wr.heap.size 3 i0 (.int .i64 0) 1 8 Bk hi0 hz0 hz1 hz2 rfl oX _ (0+xs.length) _ rfl (hown1.alloc _) ⟨_,0,A0⟩ 1 1 [.int .i64 n] rfl rfl (Tx.cell_one_at _ _ oY _ _) oG oK oQ yW ?_;intro v2 w2 hown2 hg2 hnil2;have hb2:=zby)
    |(at_builtin;refine Cy _ rfl _ _ 35 rfl wr.heap.size 3 i0 (.int .i64 0) 1 8 Bk hi0 hz0 hz1 hz2 rfl oX _ (0+xs.length+1) _ rfl hown2 ⟨b,o+xs.length,A0⟩ 0 _ [] rfl rfl (fun j u hj=>by simp at hj) (fun u hu=>by simp at hu) oK oQ hb2.size ?_;intro v3 w3 hown3 hg3 hnil3;have hb3:=zek))
   exact yt8
  |go_wp2_with (first
    |(at_builtin;refine Cy _ rfl _ _ 35 rfl wr.heap.size 3 i0 (.int .i64 0) 1 8 Bk hi0 hz0 hz1 hz2 rfl oX _ 0 [] rfl (Eo (base:=wr.heap.size) (e:=3) (size:=1) wr #[] 0 oZ oK rfl) ⟨b,o,A0⟩ xs.length _ ((xs.take xs.length).map (B3 .i64)) rfl HL1.out (h.cellsT (Tx.newb _ _) xs.length) (HONE.out _) oK oQ oZ ?_;intro v1 w1 hown1 hg1 hnil1;have hb1:=zci)
    |(at_builtin;refine Cy _ rfl _ _ 35 rfl wr.heap.size 3 i0 (.int .i64 0) 1 8 Bk hi0 hz0 hz1 hz2 rfl oX _ (0+xs.length) _ rfl (hown1.alloc _) ⟨_,0,A0⟩ 1 1 [.int .i64 n] rfl rfl (Tx.cell_one_at _ _ oY _ _) oG oK oQ yW ?_;intro v2 w2 hown2 hg2 hnil2;have hb2:=zby)
    |(at_builtin;refine Cy _ rfl _ _ 35 rfl wr.heap.size 3 i0 (.int .i64 0) 1 8 Bk hi0 hz0 hz1 hz2 rfl oX _ (0+xs.length+1) _ rfl hown2 ⟨b,o,A0⟩ 0 _ [] rfl rfl (fun j u hj=>by simp at hj) (fun u hu=>by simp at hu) oK oQ hb2.size ?_;intro v3 w3 hown3 hg3 hnil3;have hb3:=zek))
   exact yt8):P:=h
theorem r22_Put_c (xs:List Int) (b o c:Nat) (n:Int) (w:Ab) (h:Cs.LA (B3 .i64) w b o c xs) (hlen:xs.length<=1000000) :
  Af A8 39 #[.slice (A3 ⟨b,o,A0⟩) xs.length c,.int .i64 n] w fun e w'=>∃ b' o' c',e=.returned (.slice (A3 ⟨b',o',A0⟩) (D1 Bf xs n).length c')/\Cs.LA (B3 .i64) w' b' o' c' (D1 Bf xs n)/\(b'=b\/w.heap.size<=b')/\Below w.heap.size w w':=by
 obtain⟨i0,hi0,hz0,hz1,hz2⟩:=info_parts info_i64s;have hc:=h.cap;have hm:=h.max;have hml:maxLen=9223372036854775807:=rfl;go_enter Tryz.func39,Tryz.ntmps39;go_wp2;go_loopw [5] (fun i wr=>∃ (k:Nat),k<=xs.length/\i=.int .i64 k/\Hid (∀ j,j<k->∀ y,xs[j]?=A3 y->Bf y n=true)/\wr=w) (fun i _=>xs.length - (intOf i).toNat)
 case atStart=>exact⟨0,Nat.zero_le _,rfl,J (fun j hj=>absurd hj oQ),rfl⟩
 case round =>
  obtain⟨k,hk,rfl,hE,rfl⟩:=hrel;have hsc:=fun h2=>Cs.put_scan Bf n xs k hk hE.out h2;by_cases hlt:k<xs.length
  ·obtain⟨y,hy⟩:=zir;have cy:=h.at_ k y hy;by_cases hyn:y<n
   ·have hE2:Hid (∀ j,j<k+1->∀ y,xs[j]?=A3 y->Bf y n=true):=J (fun j hj z hz=>by
     rcases Nat.lt_or_ge j k with h1 | h1
     ·exact hE.out j h1 z hz
     ·obtain rfl:j=k:=oQ;rw[hy]at hz;injection hz with hz;subst hz;simpa [Bf] using hyn)
    clear hy hsc;go_wp2;go_roundw
    case rel=>exact⟨k+1,oQ,by go_num,hE2,trivial⟩
    case measure=>simp[intOf];omega
   ·have hp:=hsc (fun z hz=>by rw[hy]at hz;injection hz with hz;subst hz;simpa [Bf] using hyn);by_cases hye:y=n
    ·rw[if_pos (by rw[hy,hye])]at hp;have HP:=J hp;clear hp hsc hy;go_wp2;go_ret;rw[HP.out];exact⟨b,o,c,rfl,h,.inl rfl,Ah _ _⟩
    ·rw[if_neg (by rw[hy];intro h9;injection h9 with h9;exact hye h9)]at hp;have HP:=J hp;clear hp hsc hy;have hkc:(k:Int)<=(c:Int):=oQ;have hkl:(k:Int)<=(xs.length:Int):=oQ;have hlen1:((xs.take k).map (B3 .i64)).length=k*1:=by first | (simp;done) | (simp;omega)
     have hlen3:((xs.drop k).map (B3 .i64)).length=(xs.length - k)*1:=oZ
     have hone:∀ l:List Int,∀ u∈l.map (B3 .i64),u.oneCell'=true:=fun l u hu=>by
      obtain⟨x,_,rfl⟩:=BG.1 hu;rfl
     have HL1:=J hlen1;clear hlen1;have HL3:=J hlen3;clear hlen3;have HONE:=J hone;clear hone
     go_wp2_with (first
      |(at_builtin;refine Cy _ rfl _ _ 35 rfl wr.heap.size 3 i0 (.int .i64 0) 1 8 Bk hi0 hz0 hz1 hz2 rfl oX _ 0 [] rfl (Eo (base:=wr.heap.size) (e:=3) (size:=1) wr #[] 0 oZ oK rfl) ⟨b,o,A0⟩ k _ ((xs.take k).map (B3 .i64)) rfl HL1.out (h.cellsT (Tx.newb _ _) k) (HONE.out _) oK oQ oZ ?_;intro v1 w1 hown1 hg1 hnil1;have hb1:=zci)
      |(at_builtin;refine Cy _ rfl _ _ 35 rfl wr.heap.size 3 i0 (.int .i64 0) 1 8 Bk hi0 hz0 hz1 hz2 rfl oX _ (0+k) _ rfl (hown1.alloc _) ⟨_,0,A0⟩ 1 1 [.int .i64 n] rfl rfl (Tx.cell_one_at _ _ oY _ _) oG oK oQ yW ?_;intro v2 w2 hown2 hg2 hnil2;have hb2:=zby)
      |(at_builtin;refine Cy _ rfl _ _ 35 rfl wr.heap.size 3 i0 (.int .i64 0) 1 8 Bk hi0 hz0 hz1 hz2 rfl oX _ (0+k+1) _ rfl hown2 ⟨b,o+k,A0⟩ (xs.length - k) _ ((xs.drop k).map (B3 .i64)) rfl HL3.out (h.cellsD hb2 k) (HONE.out _) oK oQ hb2.size ?_;intro v3 w3 hown3 hg3 hnil3;have hb3:=zek))
     rcases hown3.2 with⟨h0,_⟩ | ⟨vb,vc,cur,rfl,_⟩
     ·exact absurd (hnil3.1 h0).1 (fun e=>by have:=(hnil2.1 e).2;omega)
     ·go_ret;have hll:(D1 Bf xs n).length=0+k+1+(xs.length - k):=by rw[HP.out];simp;omega
      have hvl:(D1 Bf xs n).map (B3 .i64)=[]++(xs.take k).map (B3 .i64)++[.int .i64 n]++(xs.drop k).map (B3 .i64):=by rw[HP.out];simp
      exact y14
  ·obtain rfl:k=xs.length:=oQ;have hp:=hsc (fun z hz=>by rw[Ez oQ]at hz;cases hz);rw[if_neg (by rw[Ez oQ];simp)]at hp;have HP:=J hp;clear hp hsc;by_cases hcc:c=xs.length
   ·subst hcc;have hkc:(xs.length:Int)<=(xs.length:Int):=oQ;exact vkc
   ·have hcl:(xs.length:Int)<(c:Int):=oQ;have hcl2:xs.length<c:=oQ;clear hcc;have hkc:(xs.length:Int)<=(c:Int):=oQ;exact vkc
end Go.Proofs.YtlakomilichhnaaGreatDoor
