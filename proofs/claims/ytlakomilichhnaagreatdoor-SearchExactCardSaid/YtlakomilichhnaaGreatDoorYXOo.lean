/- Texts of this seat's, what the claim needs of them. -/
import Derived.Test.YtlakomilichhnaaGreatDoorZOo
import Derived.Test.YtlakomilichhnaaGreatDoorYXOj
import Derived.Test.YtlakomilichhnaaGreatDoorYXShelfB
namespace Go.Proofs.YtlakomilichhnaaGreatDoor
set_option maxRecDepth 100000
open Go.RowKit
open List renaming mem_filter→B8,mem_map→B3,mem_of_mem_take→Cb
namespace Rc
end Rc
namespace Ix
open Rc
theorem chs_all {l:List Rd} (hd:Dist l) {r:Rd}:r∈chs l l.length↔r∈l∧1≤r.id:=by
 constructor
 ·intro h
  have:=chs_mem h
  exact⟨Cb this.2,this.1⟩
 ·rintro⟨h1,h2⟩
  have h3:=chs_ids (l:=l) (k:=l.length) (q:=r) (by rw[List.take_length];exact h1) h2
  obtain⟨q,hq,e⟩:=B3.1 h3
  have hq2:=Cb (chs_mem hq).2
  rw[hd r h1 q hq2 e.symm]
  exact hq
theorem build_mem2 {rs:List Rd} (hd:Dist rs) {p:Post}:p∈build rs↔∃ r∈rs,1≤r.id∧p∈posts r:=by
 constructor
 ·exact build_mem
 ·rintro⟨r,hr,h1,hp⟩
  unfold build
  rw[bld_eq]
  refine (fold_perm _ _).mem_iff.2 ?_
  rw[List.nil_append]
  exact List.mem_flatMap.2 ⟨r,(chs_all hd).2 ⟨hr,h1⟩,hp⟩
theorem word_mem {x:List Post}{f n:Int}{s:By}:n∈word x f s↔∃ p∈x,p.fld=f∧p.word=s∧p.id=n:=by
 unfold word
 rw[Cp.puts_mem,B3]
 constructor
 ·rintro⟨p,hp,e⟩
  obtain⟨h1,h2⟩:=B8.1 hp
  simp only[Bool.and_eq_true,decide_eq_true_eq,beq_iff_eq]at h2
  exact⟨p,h1,h2.1,h2.2,e⟩
 ·rintro⟨p,hp,h1,h2,h3⟩
  exact⟨p,B8.2 ⟨hp,by simp[h1,h2]⟩,h3⟩
theorem tells_has {rs:List Rd} (hd:Dist rs) {r:Rd} (hr:r∈rs) (h1:1≤r.id) {f:Int} (hf:0≤f∧f≤4) {s:By}:s∈terms r.fields f↔r.id∈word (build rs) f s:=by
 rw[word_mem]
 constructor
 ·intro h
  refine⟨mkp f r.id (terms r.fields f) s,(build_mem2 hd).2 ⟨r,hr,h1,posts_mem.2 ⟨hf.1,hf.2,rfl,h,rfl⟩⟩,rfl,rfl,rfl⟩
 ·rintro⟨p,hp,e1,e2,e3⟩
  obtain⟨q,hq,_,hp⟩:=(build_mem2 hd).1 hp
  obtain⟨_,_,e4,h5,_⟩:=posts_mem.1 hp
  have:=hd r hr q hq (by rw[← e3,e4])
  subst this
  rw[e1,e2]at h5
  exact h5
end Ix
end Go.Proofs.YtlakomilichhnaaGreatDoor
