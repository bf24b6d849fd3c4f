/- Texts of this seat's, what the claim needs of them. -/
import Derived.Test.YtlakomilichhnaaGreatDoorZOm
import Derived.Test.YtlakomilichhnaaGreatDoorYOOh
namespace Go.Proofs.YtlakomilichhnaaGreatDoor
set_option maxRecDepth 100000
open Go.RowKit
namespace Rc
end Rc
namespace Sr
open Rc
theorem cmpB_pos {a b:By}:0<cmpB a b↔Cp.ltB b a=true:=by
 unfold cmpB
 by_cases h:Cp.ltB a b=true
 ·rw[if_pos h]
  refine⟨fun h9=>absurd h9 (by decide),fun h9=>?_⟩
  have:=Cp.ordB.tr h h9
  rw[Cp.ordB.irr]at this
  cases this
 ·rw[if_neg h]
  by_cases e:a=b
  ·rw[if_pos e]
   refine⟨fun h9=>absurd h9 (by decide),fun h9=>?_⟩
   rw[e,Cp.ordB.irr]at h9
   cases h9
  ·rw[if_neg e];exact⟨fun _=>Cp.ordB.tot (by simpa using h) e,fun _=>by decide⟩
theorem cmp_pos {lang a b:By}:0<cmp lang a b↔Cp.ltB (key lang b) (key lang a)=true∨(key lang b=key lang a∧Cp.ltB b a=true):=by
 unfold cmp
 by_cases h:key lang a=key lang b
 ·rw[if_pos h,cmpB_pos]
  constructor
  ·exact fun h9=>.inr ⟨h.symm,h9⟩
  ·rintro (h9 | h9)
   ·rw[h,Cp.ordB.irr]at h9;cases h9
   ·exact h9.2
 ·rw[if_neg h,cmpB_pos]
  constructor
  ·exact .inl
  ·rintro (h9 | h9)
   ·exact h9
   ·exact absurd h9.1.symm h
def firstR (by_:Int) (lang:By) (a b:Rd):Int :=
 if by_=1 then cmp lang (skip a.lang.data.toList (title a.fields)) (skip b.lang.data.toList (title b.fields))
 else if by_=2 then cmp lang (author a.fields) (author b.fields)
 else if by_=3 then (year b.fields:Int) - (year a.fields:Int)
 else 0
theorem lex_pos {lang a b:By}{i j:Int}:(0<cmp lang a b∨(cmp lang a b=0∧j<i))↔ltV (key lang b,b,0,j) (key lang a,a,0,i)=true:=by
 rw[ltV_iff,cmp_pos,cmp_zero]
 simp only[Int.lt_irrefl,false_or,true_and]
 constructor
 ·rintro ((h | ⟨h1,h2⟩) | ⟨h1,h2⟩)
  ·exact .inl h
  ·exact .inr ⟨h1,.inl h2⟩
  ·exact .inr ⟨by rw[h1],.inr ⟨h1.symm,h2⟩⟩
 ·rintro (h | ⟨h1,h2 | ⟨h2,h3⟩⟩)
  ·exact .inl (.inl h)
  ·exact .inl (.inr ⟨h1,h2⟩)
  ·exact .inr ⟨h2.symm,h3⟩
theorem firstR_gt (by_:Int) (lang:By) (a b:Rd):(0<firstR by_ lang a b∨(firstR by_ lang a b=0∧b.id<a.id))↔ltV (vals by_ lang b) (vals by_ lang a)=true:=by
 unfold firstR vals
 by_cases h1:by_=1
 ·simp only[if_pos h1];exact lex_pos
 ·simp only[if_neg h1]
  by_cases h2:by_=2
  ·simp only[if_pos h2];exact lex_pos
  ·simp only[if_neg h2]
   by_cases h3:by_=3
   ·simp only[if_pos h3]
    rw[num_lt]
    omega
   ·simp only[if_neg h3]
    rw[num_lt]
    simp
def insR (by_:Int) (lang:By):List Rd→Rd→List Rd
 | [],x=>[x]
 | y::r,x=>if ltV (vals by_ lang x) (vals by_ lang y)=true then x::y::r else y::insR by_ lang r x
theorem insR_map {by_:Int}{lang:By}{x:Rd}:∀ (l:List Rd),(∀ y∈l,y.id≠x.id)→(insR by_ lang l x).map (vals by_ lang)=Cp.put ltV (l.map (vals by_ lang)) (vals by_ lang x)
 | [],_=>rfl
 | y::r,h=>by
  have hy:=h y List.mem_cons_self
  have hne:vals by_ lang y≠vals by_ lang x:=fun e=>hy (by rw[← vals_id by_ lang x,← vals_id by_ lang y,e])
  have ih:=insR_map (by_:=by_) (lang:=lang) (x:=x) r fun z hz=>h z (List.mem_cons_of_mem _ hz)
  rw[List.map_cons,Cp.put,insR]
  by_cases h1:ltV (vals by_ lang x) (vals by_ lang y)=true
  ·have h2:¬ ltV (vals by_ lang y) (vals by_ lang x)=true:=fun h9=>by
    have:=ordV.tr h1 h9
    rw[ordV.irr]at this
    cases this
   rw[if_pos h1,if_neg h2,if_neg hne]
   rfl
  ·have h2:ltV (vals by_ lang y) (vals by_ lang x)=true:=ordV.tot (by simpa using h1) (fun e=>hne e.symm)
   rw[if_neg h1,if_pos h2,List.map_cons,ih]
theorem insR_perm {by_:Int}{lang:By}{x:Rd}:∀ (l:List Rd),(insR by_ lang l x).Perm (x::l)
 | []=>List.Perm.refl _
 | y::r=>by
  unfold insR
  split
  ·exact List.Perm.refl _
  ·exact ((insR_perm r).cons y).trans (List.Perm.swap x y r)
theorem insR_at {by_:Int}{lang:By}{x:Rd}:∀ (l:List Rd) (k:Nat),k≤l.length→(∀ j y,j<k→l[j]?=some y→ltV (vals by_ lang x) (vals by_ lang y)=false)→(∀ y,l[k]?=some y→ltV (vals by_ lang x) (vals by_ lang y)=true)→insR by_ lang l x=l.take k++x::l.drop k
 | [],k,hk,_,_=>by
  have:k=0:=by simpa using hk
  subst this;rfl
 | y::r,0,_,_,h2=>by
  rw[insR,if_pos (h2 y rfl)];rfl
 | y::r,k+1,hk,h1,h2=>by
  have ih:=insR_at (by_:=by_) (lang:=lang) (x:=x) r k (by simpa using hk) (fun j z hj hz=>h1 (j+1) z (by omega) (by simpa using hz)) (fun z hz=>h2 z (by simpa using hz))
  rw[insR,if_neg (by rw[h1 0 y (by omega) rfl];decide),ih]
  rfl
def fold (by_:Int) (lang:By) (ids:List Int) (l:List Rd):List Rd:=(l.filter fun r=>decide (r.id∈ids)).foldl (insR by_ lang) []
theorem fold_take {by_:Int}{lang:By}{ids:List Int}{l:List Rd}{k:Nat}{r:Rd} (h:l[k]?=some r) :
  fold by_ lang ids (l.take (k+1))=if r.id∈ids then insR by_ lang (fold by_ lang ids (l.take k)) r else fold by_ lang ids (l.take k):=by
 unfold fold
 rw[List.take_add_one,h,List.filter_append,List.foldl_append]
 by_cases h1:r.id∈ids
 ·rw[if_pos h1]
  simp[h1]
 ·rw[if_neg h1]
  simp[h1]
theorem fold_map (by_:Int) (lang:By):∀ (l acc:List Rd),((acc++l).map (·.id)).Nodup→(l.foldl (insR by_ lang) acc).map (vals by_ lang)=(l.map (vals by_ lang)).foldl (Cp.put ltV) (acc.map (vals by_ lang))
 | [],acc,_=>rfl
 | x::l,acc,h=>by
  have hp:(insR by_ lang acc x++l).Perm (acc++x::l):=((insR_perm acc).append_right l).trans (by rw[List.cons_append];exact List.perm_middle.symm)
  have h1:∀ y∈acc,y.id≠x.id:=fun y hy e=>by
   rw[List.map_append,List.nodup_append]at h
   exact h.2.2 y.id (List.mem_map.2 ⟨y,hy,rfl⟩) x.id (by simp) e
  rw[List.foldl_cons,fold_map by_ lang l _ ((hp.map _).nodup_iff.2 h),insR_map acc h1]
  rfl
theorem order_fold {by_:Int}{lang:By}{ids:List Int}{l:List Rd} (hn:(l.map (·.id)).Nodup):(fold by_ lang ids l).map (·.id)=order l ids by_ lang:=by
 have hn2:((l.filter fun r=>decide (r.id∈ids)).map (·.id)).Nodup:=List.Nodup.sublist (List.Sublist.map _ List.filter_sublist) hn
 have h:=fold_map by_ lang (l.filter fun r=>decide (r.id∈ids)) [] (by simpa using hn2)
 rw[List.map_nil]at h
 unfold fold order Cp.puts
 rw[← h,List.map_map]
 exact List.map_congr_left fun x _=>(vals_id by_ lang x).symm
end Sr
end Go.Proofs.YtlakomilichhnaaGreatDoor
