/- Texts of this seat's, what the claim needs of them. -/
import Derived.Test.YtlakomilichhnaaGreatDoorYXOo
import Derived.Test.YtlakomilichhnaaGreatDoorZPb
import Derived.Test.YtlakomilichhnaaGreatDoorYXOm
namespace Go.Proofs.YtlakomilichhnaaGreatDoor
set_option maxRecDepth 100000
open Go.RowKit
open Bool renaming and_eq_true→Bz,eq_iff_iff→Bp
open Ix renaming Dist→IS,build→F5,build_mem2→L9,prefix_→Nw,terms→Cw
open List renaming any_eq_true→BM,getElem?_eq_some_iff→Ai,isPrefixOf_iff_prefix→Be,length_cons→AO,mem_cons_of_mem→Bw,mem_cons_self→AY,mem_filter→B8,mem_of_getElem?→Ag,mem_range→F8
namespace Qr
end Qr
namespace Rc
end Rc
namespace Sr
open Rc hiding bys
open Qr
theorem ev_congr {lf lf':Qy→Bool} (h:∀ q,Rq q→q.op=1∨q.op=2∨q.op=3∨q.op=4→lf q=lf' q):∀ q,Rq q→ev lf q=ev lf' q:=by
 refine Qy.ind ?_
 intro o f ws a b ks ih hq
 have hk:∀ k∈ks,Rq k:=by
  cases hq with
  | term=>intro k hk;cases hk
  | years=>intro k hk;cases hk
  | kids h1 h2 h4 h3=>exact h3
 have hA:∀ l:List Qy,(∀ k∈l,ev lf k=ev lf' k)→l.all (ev lf)=l.all (ev lf')∧l.any (ev lf)=l.any (ev lf'):=by
  intro l
  induction l with
  | nil=>intro _;exact⟨rfl,rfl⟩
  | cons k r ih2 =>
   intro h9
   obtain⟨e1,e2⟩:=ih2 fun x hx=>h9 x (Bw _ hx)
   simp only[List.all_cons,List.any_cons,e1,e2,h9 k AY,and_self]
 have hK:∀ k∈ks,ev lf k=ev lf' k:=fun k hk2=>ih k hk2 (hk k hk2)
 unfold ev
 split
 ·rw[evAll_eq,evAll_eq];exact (hA ks hK).1
 ·split
  ·rw[evAny_eq,evAny_eq];exact (hA ks hK).2
  ·split
   ·cases ks with
    | nil=>rfl
    | cons k r =>
     rw[evNot,evNot,evAny_eq,evAny_eq,hK k AY,(hA r fun x hx=>hK x (Bw _ hx)).2]
   ·refine h _ hq ?_
    cases hq with
    | term h1=>show o=1∨o=2∨o=3∨o=4;omega
    | years=>right;right;right;rfl
    | kids h1=>omega
theorem drop_pre {s:By}{l T:List By}{n:Nat}:(s::l) <+: T.drop n↔T[n]?=some s∧l <+: T.drop (n+1):=by
 cases h:T[n]? with
 | none =>
  have:=List.getElem?_eq_none_iff.1 h
  rw[List.drop_eq_nil_of_le this]
  simp
 | some x =>
  obtain⟨hlt,e⟩:=Ai.1 h
  rw[List.drop_eq_getElem_cons hlt,List.cons_prefix_cons,e,Option.some.injEq]
  exact⟨fun⟨a,b⟩=>⟨a.symm,b⟩,fun⟨a,b⟩=>⟨a.symm,b⟩⟩
theorem stands_iff {l ws:List By}:stands l ws=true↔∃ i,i<l.length∧ws <+: l.drop i:=by
 unfold stands
 rw[BM]
 constructor
 ·rintro⟨i,hi,h⟩
  exact⟨i,F8.1 hi,Be.1 h⟩
 ·rintro⟨i,hi,h⟩
  exact⟨i,F8.2 hi,Be.2 h⟩
theorem stands_one {l:List By}{w:By}:stands l [w]=decide (w∈l):=by
 rw[Bp,stands_iff,decide_eq_true_eq]
 constructor
 ·rintro⟨i,hi,h⟩
  exact Ag (drop_pre.1 h).1
 ·intro h
  obtain⟨i,hi⟩:=List.getElem?_of_mem h
  exact⟨i,(Ai.1 hi).1,drop_pre.2 ⟨hi,List.nil_prefix⟩⟩
theorem at_exact {rs:List Rd} (hd:IS rs) {r:Rd} (hr:r∈rs) (h1:1≤r.id) {f:Int} (hf:0≤f∧f≤4) {s:By} (hT:(Cw r.fields f).length≤10000000) {j k:Nat} (hk:k≤100000) :
  Ix.at_ (F5 rs) f s r.id j k=true↔(Cw r.fields f)[j+k]?=some s:=by
 unfold Ix.at_
 rw[BM]
 constructor
 ·rintro⟨p,hp,h⟩
  simp only[Bz,decide_eq_true_eq,beq_iff_eq,BM]at h
  obtain⟨⟨⟨e1,e2⟩,e3⟩,n,hn,hw⟩:=h
  obtain⟨q,hq,_,hp⟩:=(L9 hd).1 hp
  obtain⟨_,_,e4,h5,e5⟩:=Ix.posts_mem.1 hp
  have e6:=hd r hr q hq (by rw[← e3,e4])
  subst e6
  rw[e1,e2]at e5
  rw[e5]at hn
  obtain⟨i,hi,ht⟩:=Ix.placesF_mem.1 hn
  have hl:=(Ai.1 ht).1
  rw[IntWalk.i64_in _ ⟨by omega,by omega⟩]at hw
  rw[show j+k=i by omega]
  exact ht
 ·intro h
  have hl:=(Ai.1 h).1
  refine⟨Ix.mkp f r.id (Cw r.fields f) s,(L9 hd).2 ⟨r,hr,h1,Ix.posts_mem.2 ⟨hf.1,hf.2,rfl,Ag h,rfl⟩⟩,?_⟩
  simp only[Bz,decide_eq_true_eq,beq_iff_eq,BM]
  refine⟨⟨⟨rfl,rfl⟩,rfl⟩,((0+(j+k):Nat):Int),Ix.placesF_mem.2 ⟨j+k,rfl,h⟩,?_⟩
  rw[IntWalk.i64_in _ ⟨by omega,by omega⟩]
  omega
theorem fol_exact {rs:List Rd} (hd:IS rs) {r:Rd} (hr:r∈rs) (h1:1≤r.id) {f:Int} (hf:0≤f∧f≤4) (hT:(Cw r.fields f).length≤10000000) {j:Nat}:∀ (l:List By) (k:Nat),k+l.length≤100000 →
  (Ix.folF (F5 rs) f r.id j k l=true↔l <+: (Cw r.fields f).drop (j+k))
 | [],k,_=>by simp[Ix.folF]
 | s::l,k,hk=>by
  rw[AO]at hk
  rw[Ix.folF_cons,Bz,at_exact hd hr h1 hf hT (by omega),fol_exact hd hr h1 hf hT l (k+1) (by omega),drop_pre,Nat.add_assoc]
theorem phrase_exact {rs:List Rd} (hd:IS rs) {r:Rd} (hr:r∈rs) (h1:1≤r.id) {f:Int} (hf:0≤f∧f≤4) (hT:(Cw r.fields f).length≤10000000) {ws:List By} (hw:1≤ws.length∧ws.length≤10000) :
  r.id∈Ix.phrase (F5 rs) f ws↔stands (Cw r.fields f) ws=true:=by
 cases ws with
 | nil=>exact absurd hw.1 (by decide)
 | cons s l =>
  rw[AO]at hw
  rw[Ix.phr_mem,stands_iff]
  constructor
  ·rintro⟨p,hp,e1,e2,e3,m,hm,hfo⟩
   obtain⟨q,hq,_,hp⟩:=(L9 hd).1 hp
   obtain⟨_,_,e4,h5,e5⟩:=Ix.posts_mem.1 hp
   have e6:=hd r hr q hq (by rw[← e3,e4])
   subst e6
   rw[e1,e2]at e5
   rw[e5]at hm
   obtain⟨i,hi,ht⟩:=Ix.placesF_mem.1 hm
   rw[Nat.zero_add]at hi
   rw[e4,hi]at hfo
   refine⟨i,(Ai.1 ht).1,drop_pre.2 ⟨ht,(fol_exact hd hr h1 hf hT l 1 (by omega)).1 hfo⟩⟩
  ·rintro⟨i,hi,h⟩
   obtain⟨ht,h⟩:=drop_pre.1 h
   refine⟨Ix.mkp f r.id (Cw r.fields f) s,(L9 hd).2 ⟨r,hr,h1,Ix.posts_mem.2 ⟨hf.1,hf.2,rfl,Ag ht,rfl⟩⟩,rfl,rfl,rfl,((0+i:Nat):Int),Ix.placesF_mem.2 ⟨i,rfl,ht⟩,?_⟩
   rw[Nat.zero_add]
   exact (fol_exact hd hr h1 hf hT l 1 (by omega)).2 h
theorem prefix_exact {rs:List Rd} (hd:IS rs) {r:Rd} (hr:r∈rs) (h1:1≤r.id) {f:Int} (hf:0≤f∧f≤4) {s:By} (hs:s≠[]) :
  r.id∈Nw (F5 rs) f s↔(Cw r.fields f).any (fun t=>Lib.hasPrefix t s)=true:=by
 have hb:∀ w:By,Ix.begP s w=true↔s <+: w:=fun w=>by
  unfold Ix.begP
  rw[beq_iff_eq]
  exact⟨fun h=>by rw[← h];exact List.take_prefix _ _,fun h=>(List.prefix_iff_eq_take.1 h).symm⟩
 unfold Nw
 rw[Cp.puts_mem,List.mem_map,BM]
 constructor
 ·rintro⟨p,hp,e3⟩
  obtain⟨hp,h2⟩:=B8.1 hp
  simp only[Bz,decide_eq_true_eq]at h2
  obtain⟨_,e1,e2⟩:=h2
  obtain⟨q,hq,_,hp⟩:=(L9 hd).1 hp
  obtain⟨_,_,e4,h5,_⟩:=Ix.posts_mem.1 hp
  have e6:=hd r hr q hq (by rw[← e3,e4])
  subst e6
  rw[e1]at h5
  exact⟨p.word,h5,Be.2 ((hb _).1 e2)⟩
 ·rintro⟨t,ht,h2⟩
  refine⟨Ix.mkp f r.id (Cw r.fields f) t,B8.2 ⟨(L9 hd).2 ⟨r,hr,h1,Ix.posts_mem.2 ⟨hf.1,hf.2,rfl,ht,rfl⟩⟩,?_⟩,rfl⟩
  have h3:=(hb t).2 (Be.1 h2)
  have h4:(s == [])=false:=beq_eq_false_iff_ne.2 hs
  show (!(s == [])&&(decide (f=f)&&Ix.begP s t))=true
  rw[h4,h3,decide_eq_true rfl]
  rfl
theorem isWord_ne {x:ByteArray} (h:isWord x=true):x.data.toList≠[]:=fun e=>by
 unfold isWord at h
 rw[e]at h
 revert h
 decide
theorem leaf_exact {rs:List Rd} (hd:IS rs) {r:Rd} (hr:r∈rs) (h1:1≤r.id) (hT:∀ f,(Cw r.fields f).length≤10000000):∀ q,Rq q→q.op=1∨q.op=2∨q.op=3∨q.op=4→leafX (F5 rs) r q=leafM r.fields q:=by
 rintro _ (@⟨o,f,ws,ho,hf,hn,hn1,hw⟩ | ⟨_,_⟩ | ⟨_,_,_,_⟩) hop
 ·have hl:(bys ws).length=ws.length:=by unfold bys;rw[List.length_map]
  have h1w:ws.length=1→∃ x∈ws,bys ws=[x.data.toList]:=fun h=>by
   obtain⟨x,rfl⟩:=List.length_eq_one_iff.1 h
   exact⟨x,AY,rfl⟩
  rcases ho with rfl | rfl | rfl
  ·obtain⟨x,hx,e⟩:=h1w (hn1 (by decide))
   show decide (r.id∈Ix.word (F5 rs) f ((bys ws).headD []))=stands (Cw r.fields f) (bys ws)
   rw[e,stands_one,decide_eq_decide]
   exact (Ix.tells_has hd hr h1 hf).symm
  ·obtain⟨x,hx,e⟩:=h1w (hn1 (by decide))
   show decide (r.id∈Nw (F5 rs) f ((bys ws).headD []))=(Cw r.fields f).any fun t=>Lib.hasPrefix t ((bys ws).headD [])
   rw[e,Bp,decide_eq_true_eq]
   exact prefix_exact hd hr h1 hf (isWord_ne (hw x hx))
  ·show decide (r.id∈Ix.phrase (F5 rs) f (bys ws))=stands (Cw r.fields f) (bys ws)
   rw[Bp,decide_eq_true_eq]
   exact phrase_exact hd hr h1 hf (hT f) (by rw[hl];omega)
 ·rfl
 ·rename_i o ks g1 g2 g3 g4
  exfalso
  change o=1∨o=2∨o=3∨o=4 at hop
  omega
theorem ev_exact {rs:List Rd} (hd:IS rs) {r:Rd} (hr:r∈rs) (h1:1≤r.id) (hT:∀ f,(Cw r.fields f).length≤10000000) {q:Qy} (hq:Rq q):ev (leafX (F5 rs) r) q=matchB r.fields q :=
 ev_congr (leaf_exact hd hr h1 hT) q hq
end Sr
end Go.Proofs.YtlakomilichhnaaGreatDoor
