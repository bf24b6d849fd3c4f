/- Texts of this seat's, what the claim needs of them. -/
import Derived.Test.YtlakomilichhnaaGreatDoorZOr
import Derived.Test.YtlakomilichhnaaGreatDoorYOOl
import Derived.Test.YtlakomilichhnaaGreatDoorYOOb
import Derived.Deep.RegionLaw
import Derived.Deep.DeepCutAuto
namespace Go.Proofs.YtlakomilichhnaaGreatDoor
set_option maxRecDepth 100000
open Go.RowKit
open Br renaming cells_new_at→AR
open Go renaming Addr→Ao,TypeId→Bd,Value→Ah,World→A9
open List renaming eq_nil_of_length_eq_zero→Aw,flatMap_append→BB,map_cons→Cf,map_nil→Ee,map_toArray→JH,take_append_drop→BJ
open Nat renaming le_refl→An,zero_add→D9
open Option renaming none→A4,some→A2
namespace Br
variable {α : Type} {enc : α → List Ah} {size : Nat}
end Br
namespace Rc
open Go.Lib
theorem f_new (w:A9) (g:Nat) (hg:g=w.heap.size) (f:Fl) (sa:Option Ao) (sc:Nat) (t:Bd):∀ j u,(encF (f,sa,sc))[j]?=A2 u→(w.alloc (.cells #[.string f.tag,.string f.ind,.slice sa f.subs.length sc,.int .i64 f.auth] t)).cell? ((⟨g,0,A4⟩:Ao).add j)=A2 u :=
 AR w g hg _ t
theorem f_one (t:FT):∀ u∈encF t,u.oneCell'=true:=by simp[encF,Value.oneCell']
theorem FldA.of_own {w:A9}{B e n:Nat}{v:Ah}{T:List FT} (h:w.ownsRow B e 4 v n (T.flatMap encF)) (hn:n=T.length) (hs:∀ t∈T,SubA w t.2.1 t.2.2 t.1.subs):∃ a c,v=.slice a (T.map (·.1)).length c∧FldA w a c (T.map (·.1)):=by
 obtain⟨a,c,e1,h1,_⟩:=Br.FA.of_own encF_len h hn
 exact⟨a,c,by rw[List.length_map];exact e1,.of_fa h1 hs⟩
end Rc
theorem info_fld:(Tryz.prog.info? 84).map (fun i=>(i.zero,i.size,i.bytes))=A2 (A2 (.agg #[.string ⟨#[]⟩,.string ⟨#[]⟩,.slice A4 0 0,.int .i64 0]),4,64):=by kernel_rfl
namespace Br
section
variable {α : Type} {enc : α → List Ah} {size : Nat}
theorem FA.cellsT (hs:∀ x,(enc x).length=size) (h0:0<size) {w w':A9}{b o c:Nat}{xs:List α} (h:FA enc size w (A2 ⟨b,o,A4⟩) c xs) (hb:Below w.heap.size w w') (k:Nat):∀ j u,((xs.take k).flatMap enc)[j]?=A2 u→w'.cell? ((⟨b,o,A4⟩:Ao).add j)=A2 u:=by
 intro j u hj
 refine (h.below hb).cells hs h0 _ rfl j u ?_
 have e:xs.flatMap enc=(xs.take k).flatMap enc++(xs.drop k).flatMap enc:=by rw[← BB,BJ]
 rw[e,List.getElem?_append_left (List.getElem?_eq_some_iff.1 hj).1]
 exact hj
theorem FA.cellsD (hs:∀ x,(enc x).length=size) (h0:0<size) {w w':A9}{b o c:Nat}{xs:List α} (h:FA enc size w (A2 ⟨b,o,A4⟩) c xs) (hb:Below w.heap.size w w') (k:Nat) (hk:k≤xs.length) (p:Nat) (hp:p=o+k*size):∀ j u,((xs.drop k).flatMap enc)[j]?=A2 u→w'.cell? ((⟨b,p,A4⟩:Ao).add j)=A2 u:=by
 intro j u hj
 have e:xs.flatMap enc=(xs.take k).flatMap enc++(xs.drop k).flatMap enc:=by rw[← BB,BJ]
 have hl:((xs.take k).flatMap enc).length=k*size:=by rw[flat_len enc size hs,List.length_take,Nat.min_eq_left hk]
 have h9:=(h.below hb).cells hs h0 _ rfl (k*size+j) u (by rw[e,List.getElem?_append_right (by omega),hl,Nat.add_sub_cancel_left];exact hj)
 rw[Cs.add_at]at h9 ⊢
 rw[hp,Nat.add_assoc]
 exact h9
end
end Br
namespace Sq
def OwnZ (w:A9) (B e size:Nat) (v:Ah) (n:Nat) (xs:List Ah):Prop :=
 (n=0∧xs=[]∧∃ X,v=.slice (A2 ⟨X,0,A4⟩) 0 0)∨(w.ownsRow B e size v n xs∧v≠.slice A4 0 0)
theorem OwnZ.lit (w:A9) (B e size X:Nat):OwnZ w B e size (.slice (A2 ⟨X,0,A4⟩) 0 0) 0 []:=.inl ⟨rfl,rfl,X,rfl⟩
theorem OwnZ.alloc {w:A9}{B e size:Nat}{v:Ah}{n:Nat}{xs:List Ah} (h:OwnZ w B e size v n xs) (o:Obj):OwnZ (w.alloc o) B e size v n xs:=by
 rcases h with h | ⟨h1,h2⟩
 ·exact .inl h
 ·exact .inr ⟨h1.alloc o,h2⟩
theorem OwnZ.fa {α:Type}{enc:α→List Ah}{size:Nat} (hs:∀ x,(enc x).length=size) {w:A9}{B e n:Nat}{v:Ah}{xs:List α} (h:OwnZ w B e size v n (xs.flatMap enc)) (hn:n=xs.length):∃ b o c,v=.slice (A2 ⟨b,o,A4⟩) xs.length c∧Br.FA enc size w (A2 ⟨b,o,A4⟩) c xs:=by
 rcases h with⟨h1,h2,X,rfl⟩ | ⟨h1,h2⟩
 ·have hx:xs=[]:=Aw (by omega)
  subst hx
  exact⟨X,0,0,rfl,An _,Nat.zero_le _,X,0,fun h9=>absurd rfl h9,fun j i x u hx=>by simp at hx⟩
 ·obtain⟨a,c,e1,e2,_⟩:=Br.FA.of_own hs h1 hn
  subst e1
  rcases h1.2 with⟨h9,_⟩ | ⟨g,cap,cur,h9,_⟩
  ·exact absurd h9 h2
  ·injection h9 with h9 h10 h11
   subst h9
   exact⟨g,0,c,rfl,e2⟩
section
variable {P : Program} (w : A9)
theorem run_append_lit (base:Nat) (t ty e:Bd) (i:TypeInfo) (z:Ah) (size bytes:Nat) (ht:P.underlying t=A2 (.slice e)) (hi:P.info? e=A2 i) (hz:i.zero=A2 z)
  (hsize:i.size=size) (hby:i.bytes=bytes) (hzs:z.cells.size=size) (hsz:0<size) (X:Nat)
  (a:Ao) (m c:Nat) (news:List Ah) (hl:news.length=m*size) (hnews:∀ j u,news[j]?=A2 u→w.cell? (a.add j)=A2 u)
  (h63:m≤maxLen) (hbytes:m*bytes≤140737488355328) (hbase:base≤w.heap.size) :
  ∃ v' w',(Builtin.append_ #[t,t] ty #[.slice (A2 ⟨X,0,A4⟩) 0 0,.slice (A2 a) m c]).run P w=.ok v' w'∧OwnZ w' base e size v' m news∧w.grownBy w' A4:=by
 subst hsize
 subst hby
 by_cases hm:m=0
 ·subst hm
  have hn:news=[]:=Aw (by rw[hl];omega)
  subst hn
  have hr:=run_append_room_cells (P:=P) w t ty e i ht hi X 0 0 0 a 0 c [] hl hnews (fun u hu=>by cases hu) (An _) (fun j hj=>by cases hj) (fun j hj=>by cases hj)
  refine⟨_,_,hr,.inl ⟨rfl,rfl,X,rfl⟩,?_⟩
  exact⟨rfl,rfl,rfl,An _,fun _ _ _=>rfl⟩
 ·have hsmall:m≤9223372036854775807:=by simp only[maxLen]at h63;omega
  have hr:=run_append_grow (P:=P) w t ty e i z ht hi hz ⟨X,0,A4⟩ 0 0 [] (by simp) (fun j u h=>by simp at h) a m c news hl hnews (by omega) (by omega) (growslice_fits (by omega) (by rw[D9];exact hbytes))
  have hge:=grownCap_ge w (0+m) 0 e
  have hcm:grownCap w (0+m) 0 e≤maxLen:=grownCap_le_maxLen w (0+m) 0 e (by rw[D9];exact h63)
  generalize grownCap w (0+m) 0 e=C at hr hge hcm
  rw[D9]at hr hge
  refine⟨_,_,hr,.inr ⟨⟨hl,.inr ⟨w.heap.size,_,_,rfl,hbase,heap_alloc_new w.drew _,by omega,hcm,?_,?_⟩⟩,by simp⟩,⟨rfl,rfl,rfl,by simp,fun k hk _=>heap_alloc_old w.drew _ hk⟩⟩
  ·simp only[Array.size_append,List.size_toArray,size_zeroCells,hzs,hl,List.length_nil,D9,← Nat.add_mul]
   congr 1
   omega
  ·simp only[Array.toList_append,List.append_assoc]
   rw[← hl]
   exact List.take_left
theorem step_append_z {ops:Array Oper}{o:Oper}{a:Act}{K:Act→A9→Prop}{Q:Exit→Act→A9→Prop}{E:Prop} (hgd:o.guard=A4) (s x:Operand) (t:Bd)
  (ho:o.op=.call { callee:=.builtin .append,args:=#[s,x],argTypes:=#[t,t] })
  (base:Nat) (e:Bd) (i:TypeInfo) (z:Ah) (size bytes:Nat) (ht:P.underlying t=A2 (.slice e)) (hi:P.info? e=A2 i) (hz:i.zero=A2 z)
  (hsize:i.size=size) (hby:i.bytes=bytes) (hzs:z.cells.size=size) (hsz:0<size)
  (v:Ah) (n:Nat) (xs:List Ah) (hs:a.eval s=v) (hown:OwnZ w base e size v n xs)
  (ad:Ao) (m c:Nat) (news:List Ah) (hx:a.eval x=.slice (A2 ad) m c) (hl:news.length=m*size) (hnews:∀ j u,news[j]?=A2 u→w.cell? (ad.add j)=A2 u) (h1:∀ u∈news,u.oneCell'=true)
  (h63:n+m≤maxLen) (hbytes:(n+m)*bytes≤140737488355328) (hbase:base≤w.heap.size)
  (h:∀ v' w',OwnZ w' base e size v' (n+m) (xs++news)→w.grownBy w' v.ownBlock→Below base w w'→K (a.put o.dst v') w') :
  if Region.wanted o (yielded ops a.tmps)=true then Oper.wp P o a w K Q else E:=by
 have hw:Region.wanted o (yielded ops a.tmps)=true:=by simp[Region.wanted,hgd]
 rw[if_pos hw]
 rcases hown with⟨rfl,rfl,X,rfl⟩ | ⟨hown,hne⟩
 ·obtain⟨v',w',hr,h2,h3⟩:=run_append_lit (P:=P) w base t o.type e i z size bytes ht hi hz hsize hby hzs hsz X ad m c news hl hnews (by omega) (by simpa using hbytes) hbase
  unfold Oper.wp execOp
  simp only[ho,resolve,invoke,builtin,Sem.run_bind,Sem.run_pure,Result.andThen_ok,JH,Cf,Ee,hs,hx,hr]
  exact h v' w' (by rw[D9,List.nil_append];exact h2) ⟨h3.os,h3.tape,h3.output,h3.size,fun k hk _=>h3.block k hk (by simp)⟩ ((Below.refl base w).grown h3 hbase (fun j hj=>by cases hj))
 ·obtain⟨v',w',hr,h2,h3,h4,_⟩:=run_append_own_at (P:=P) w base t o.type e i z size bytes ht hi hz hsize hby hzs hsz v n xs hown ad m c news hl hnews h1 h63 hbytes hbase
  unfold Oper.wp execOp
  simp only[ho,resolve,invoke,builtin,Sem.run_bind,Sem.run_pure,Result.andThen_ok,JH,Cf,Ee,hs,hx,hr]
  exact h v' w' (.inr ⟨h2,fun e=>hne (h4.1 e).1⟩) h3 ((Below.refl base w).grown h3 hbase (fun j hj=>(hown.lt j hj).1))
end
theorem el1 {w w1:A9}{lit cs:Array Ah}{t t':Bd} (hg:((w.alloc (.cells lit t)).alloc (.cells cs t')).drew.grownBy w1 (A2 w.heap.size)):∀ j u,cs.toList[j]?=A2 u→w1.cell? ((⟨w.heap.size+1,0,A4⟩:Ao).add j)=A2 u:=by
 intro j u hj
 have h:=AR (w.alloc (.cells lit t)) (w.heap.size+1) (by simp) cs t' j u hj
 refine hg.cell h ?_
 rw[Cs.add_at]
 simp
theorem el2 {w w1:A9}{lit cs:Array Ah}{t t':Bd} (hg:((w.alloc (.cells cs t')).alloc (.cells lit t)).drew.grownBy w1 (A2 (w.heap.size+1))):∀ j u,cs.toList[j]?=A2 u→w1.cell? ((⟨w.heap.size,0,A4⟩:Ao).add j)=A2 u:=by
 intro j u hj
 have h:=AR w w.heap.size rfl cs t' j u hj
 have h2:((w.alloc (.cells cs t')).alloc (.cells lit t)).cell? ((⟨w.heap.size,0,A4⟩:Ao).add j)=A2 u:=cell_later (Tx.newb _ _) h
 refine hg.cell h2 ?_
 rw[Cs.add_at]
 simp
end Sq
end Go.Proofs.YtlakomilichhnaaGreatDoor
