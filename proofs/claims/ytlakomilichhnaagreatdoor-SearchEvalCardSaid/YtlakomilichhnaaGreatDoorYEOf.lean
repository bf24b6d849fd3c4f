/- Texts of this seat's, what the claim needs of them. -/
import Derived.Test.YtlakomilichhnaaGreatDoorYEOh
import Derived.Test.YtlakomilichhnaaGreatDoorZOf
namespace Go.Proofs.YtlakomilichhnaaGreatDoor
set_option maxHeartbeats 1600000
set_option maxRecDepth 100000
open Go.RowKit
open Bool renaming and_eq_true→Bz
open Proofs.Tryz renaming func79→MR,ntmps79→LQ
namespace Rc
end Rc
namespace Ix
open Rc
def ascF:Int→List Int→Bool
 | _,[]=>true
 | m,n::l=>decide (m<n)&&ascF n l
def okP (p:Post):Bool:=decide (0≤p.fld)&&decide (p.fld≤4)&&!(p.word == [])&&decide (1≤p.id)&&!(p.at_ == [])&&ascF (-1) p.at_
def prevB:Option Post→Post→Bool
 | none,_=>true
 | some q,p=>ltK q p
def rightF:Option Post→List Post→Bool
 | _,[]=>true
 | q,p::l=>okP p&&prevB q p&&rightF (some p) l
theorem rightF_cons (q:Option Post) (p:Post) (l:List Post):rightF q (p::l)=(okP p&&prevB q p&&rightF (some p) l):=rfl
def right (x:List Post):Bool:=rightF none x
theorem rightF_asc:∀ (l:List Post) (q:Post),rightF (some q) l=true→Asc (q::l)
 | [],q,_=>List.pairwise_singleton _ _
 | p::l,q,h=>by
  rw[rightF_cons,Bz,Bz]at h
  have ih:=rightF_asc l p h.2
  have ih':=List.pairwise_cons.1 ih
  refine List.pairwise_cons.2 ⟨fun y hy=>?_,ih⟩
  rcases List.mem_cons.1 hy with e | hy
  ·rw[e];exact h.1.2
  ·exact ltK_trans h.1.2 (ih'.1 y hy)
theorem right_asc {x:List Post} (h:right x=true):Asc x:=by
 cases x with
 | nil=>exact List.Pairwise.nil
 | cons p l =>
  unfold right at h
  rw[rightF_cons,Bz]at h
  exact rightF_asc l p h.2
theorem rightF_ok:∀ (l:List Post) (q:Option Post),rightF q l=true→∀ p∈l,okP p=true
 | [],_,_,p,hp=>by cases hp
 | p::l,q,h,y,hy=>by
  rw[rightF_cons,Bz,Bz]at h
  rcases List.mem_cons.1 hy with e | hy
  ·rw[e];exact h.1.1
  ·exact rightF_ok l _ h.2 y hy
end Ix
theorem r20_before_c (p q:Ix.Post) (pa qa:Option Addr) (pc qc:Nat) (w:World) :
  Calls Tryz.prog 79 #[.agg #[.int .i64 p.fld,.string ⟨p.word.toArray⟩,.int .i64 p.id,.slice pa p.at_.length pc],.agg #[.int .i64 q.fld,.string ⟨q.word.toArray⟩,.int .i64 q.id,.slice qa q.at_.length qc]] w fun e w'=>e=.returned (.bool (Ix.ltK p q))∧Below w.heap.size w w':=by
 obtain⟨W,hW⟩:∃ W,(w.alloc (.cells #[.int .i64 p.fld,.string ⟨p.word.toArray⟩,.int .i64 p.id,.slice pa p.at_.length pc] 100)).alloc (.cells #[.int .i64 q.fld,.string ⟨q.word.toArray⟩,.int .i64 q.id,.slice qa q.at_.length qc] 100)=W:=⟨_,rfl⟩
 have hB:Below w.heap.size w W:=by rw[← hW];exact (Tx.newb _ _).alloc (by simp) _
 have c0:W.cell? ⟨w.heap.size,0,none⟩=some (.int .i64 p.fld):=by rw[← hW];simp
 have c1:W.cell? ⟨w.heap.size,1,none⟩=some (.string ⟨p.word.toArray⟩):=by rw[← hW];simp
 have c2:W.cell? ⟨w.heap.size,2,none⟩=some (.int .i64 p.id):=by rw[← hW];simp
 have d0:W.cell? ⟨w.heap.size+1,0,none⟩=some (.int .i64 q.fld):=by rw[← hW];simp
 have d1:W.cell? ⟨w.heap.size+1,1,none⟩=some (.string ⟨q.word.toArray⟩):=by rw[← hW];simp
 have d2:W.cell? ⟨w.heap.size+1,2,none⟩=some (.int .i64 q.id):=by rw[← hW];simp
 by_cases e0:p.fld=q.fld
 ·have t0:(p.fld != q.fld)=false:=by simpa using e0
  by_cases e1:p.word=q.word
  ·have t1:(p.word == q.word)=true:=by simpa using e1
   have hr:Ix.ltK p q=decide (p.id<q.id):=by unfold Ix.ltK Cp.ltI Cp.ltB;rw[e0,e1];simp[List.lt_irrefl]
   have HR:=Lib.hid hr
   clear hr e0 e1
   go_enter MR,LQ
   go_wp2
   go_ret
   exact⟨by rw[HR.out];rfl,hB⟩
  ·have t1:(p.word == q.word)=false:=by simpa using e1
   have hbl:Op.bytesLess p.word q.word=decide (p.word<q.word):=Go.Proofs.bytesLess_eq _ _
   have hr:Ix.ltK p q=Op.bytesLess p.word q.word:=by rw[hbl];unfold Ix.ltK Cp.ltI Cp.ltB;rw[e0];simp[e1]
   have HR:=Lib.hid hr
   clear hr hbl e0 e1
   go_enter MR,LQ
   go_wp2
   go_ret
   exact⟨by rw[HR.out];rfl,hB⟩
 ·have t0:(p.fld != q.fld)=true:=by simpa using e0
  have hr:Ix.ltK p q=decide (p.fld<q.fld):=by unfold Ix.ltK Cp.ltI;simp[e0]
  have HR:=Lib.hid hr
  clear hr e0
  go_enter MR,LQ
  go_wp2
  go_ret
  exact⟨by rw[HR.out];rfl,hB⟩
end Go.Proofs.YtlakomilichhnaaGreatDoor
