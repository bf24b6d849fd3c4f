/- Parts. -/
import Derived.Test.YtlakomilichhnaaGreatDoorROo
import Derived.Test.YtlakomilichhnaaGreatDoorROm
import Derived.Sort.OwnSortedInts
import Derived.Lib.OwnBridge
import Derived.Test.YtlakomilichhnaaGreatDoorROy
namespace Go.Proofs.YtlakomilichhnaaGreatDoor
set_option maxHeartbeats 6400000
set_option maxRecDepth 100000
open Go.RowKit
open Cp renaming ltI->Bf,put->D1,puts->BP
open Go renaming Addr->Aq,Calls->Af,Value->Ak,World->Ab,cell_later->A4,heap_alloc_new->Ae,maxLen->Ap
open Ix renaming By->GR,OwnI->Bq,PT->C5,Post->Eg,PsA->DT,build->Hw,idsT->Eu,idsT_len->KO,prefP->Cj,wordP->CL
open Lib renaming compact->FE,hasPrefix->Dh,hid->J
open List renaming append_nil->AB,eq_nil_of_length_eq_zero->Ar,length->Dl,length_cons->AH,length_take->Az,map_append->AY,map_cons->BX,map_nil->Do,map_toArray->I1,mem_append->AQ,mem_filter->Be,mem_map->BG,take_length->At
open Nat renaming le_refl->Ad,le_trans->Au,mul_le_mul_left->JH,zero_le->Am
open Option renaming none->A0,some->A3
open Proofs renaming intOf->Aj,own_below->B4
open Proofs.Tryz renaming prog->A8,underlying35->Bk
open RowKit renaming Below->Aa
open Tx renaming blk->A7,blk_later->A6,newb->A9,step->Ac
open Value renaming int->B3,slice->E0
open World renaming ownsRow_nil->AI,size_alloc->An
open _root_.Array renaming getElem?_eq_some_iff->AA,getElem?_modify->Dy
variable {P:Prop}
namespace Qr
end Qr
namespace Rc
end Rc
namespace Sr
open Rc hiding bys
open Qr
inductive Rq:Qy->Prop
 | term {o f:Int}{ws:List ByteArray} (h1:o=1\/o=2\/o=3) (h2:0<=f/\f<=4) (h3:1<=ws.length/\ws.length<=8) (h5:o≠3->ws.length=1) (h4:∀ x∈ws,isWord x=true):Rq (.mk o f ws 0 0 [])
 | years {a b:Int} (h1:1<=a/\a<=2199) (h2:1<=b/\b<=2199):Rq (.mk 4 0 [] a b [])
 | kids {o:Int}{ks:List Qy} (h1:o=5\/o=6\/o=7) (h2:2<=ks.length/\ks.length<=8) (h4:o=7->ks.length=2) (h3:∀ k∈ks,Rq k):Rq (.mk o 0 [] 0 0 ks)
theorem treeL_nought:∀ (l:List Qy) (e:Int),treeL e l=0->e=0/\∀ k∈l,treeE k=0
 | [],e,h=>⟨by simpa [treeL] using h,fun k hk=>by simp at hk⟩
 | k::r,e,h=>by
  by_cases he:e=0
  ·subst he;rw[treeL,if_pos rfl]at h;obtain⟨h1,h2⟩:=treeL_nought r _ h;refine⟨rfl,fun x hx=>?_⟩;rw[List.mem_cons]at hx;rcases hx with rfl | hx
   ·exact h1
   ·exact h2 x hx
  ·rw[treeL_bad he]at h;exact absurd h he
theorem rq_of:∀ q,treeE q=0->Rq q:=by
 refine Qy.ind ?_;intro o f ws a b ks ih h;rw[treeE]at h;obtain⟨h1,h2⟩:=treeL_nought ks _ h;have hk:=fun k hk=>ih k hk (h2 k hk);simp only[nodeE]at h1;split at h1
 ·rename_i ho;unfold termE at h1
  repeat' split at h1
  all_goals first | (exfalso;omega) | skip
  rename_i c1 c2 _ _;have e1:a=0:=oQ;have e2:b=0:=oQ;have e3:ks=[]:=Ar oQ;subst e1 e2 e3;have c3:ws.all isWord=true:=by simpa using c2
  exact .term ho oQ oQ oQ (List.all_eq_true.1 c3)
 ·split at h1
  ·rename_i _ ho;subst ho;unfold yearsE at h1
   repeat' split at h1
   all_goals first | (exfalso;omega) | skip
   have e1:f=0:=oQ;have e2:ws=[]:=Ar oQ;have e3:ks=[]:=Ar oQ;subst e1 e2 e3;exact .years oQ oQ
  ·split at h1
   ·rename_i ho;unfold kidsE at h1
    have e1:f=0/\a=0/\b=0/\ws.length=0/\(2<=ks.length/\ks.length<=8)/\(o=7->ks.length=2):=by
     repeat' split at h1
     all_goals first | (exfalso;omega) | (refine⟨oQ,oQ,oQ,oQ,oQ,oQ⟩)
    obtain⟨rfl,rfl,rfl,e4,e5,e6⟩:=e1;have e2:ws=[]:=Ar e4;subst e2;exact .kids ho e5 e6 hk
   ·exfalso;omega
theorem rq_right {q:Qy} (h:rightE q=0):Rq q:=by
 unfold rightE at h;split at h
 ·cases h
 ·exact rq_of q h
def Fd (l:List Rd) (P:Rd->Bool) (out:List Int):Prop:=∀ n,n∈out↔∃ r∈l,P r=true/\r.id=n
theorem Fd.congr {l:List Rd}{P Q:Rd->Bool}{out:List Int} (h:Fd l P out) (e:∀ r∈l,P r=Q r):Fd l Q out:=fun n=>by
 rw[h n];exact⟨fun⟨r,h1,h2,h3⟩=>⟨r,h1,by rw[<- e r h1];exact h2,h3⟩,fun⟨r,h1,h2,h3⟩=>⟨r,h1,by rw[e r h1];exact h2,h3⟩⟩
theorem Fd.mem {l:List Rd} (hd:Ix.Dist l) {P:Rd->Bool}{out:List Int} (h:Fd l P out) {r:Rd} (hr:r∈l):decide (r.id∈out)=P r:=by
 rw[Bool.eq_iff_iff,decide_eq_true_eq,h r.id];constructor
 ·rintro⟨q,hq,hp,e⟩;have:=hd q hq r hr e;subst this;exact hp
 ·intro hp;exact⟨r,hr,hp,rfl⟩
theorem yif (h:P:=by
 rintro⟨r,hr,hp,rfl⟩;rw[Bool.and_eq_true]at hp;exact⟨⟨r,hr,hp.1,rfl⟩,by rw[g.mem hd hr];exact hp.2⟩):P:=h
theorem Fd.and {l:List Rd} (hd:Ix.Dist l) {P Q:Rd->Bool}{out fo:List Int} (h:Fd l P out) (g:Fd l Q fo):Fd l (fun r=>P r&&Q r) (out.filter fun n=>decide (n∈fo)):=fun n=>by
 rw[Be,h n];constructor
 ·rintro⟨⟨r,hr,hp,rfl⟩,h2⟩;rw[g.mem hd hr]at h2;exact⟨r,hr,by show (P r&&Q r)=true;rw[hp,h2];rfl,rfl⟩
 ·exact yif
theorem Fd.not {l:List Rd} (hd:Ix.Dist l) {P Q:Rd->Bool}{out fo:List Int} (h:Fd l P out) (g:Fd l Q fo):Fd l (fun r=>P r&&!Q r) (out.filter fun n=>!decide (n∈fo)):=fun n=>by
 rw[Be,h n];constructor
 ·rintro⟨⟨r,hr,hp,rfl⟩,h2⟩;rw[g.mem hd hr]at h2;exact⟨r,hr,by show (P r&&!Q r)=true;rw[hp];exact h2,rfl⟩
 ·exact yif
theorem Fd.or {l:List Rd}{P Q:Rd->Bool}{out fo:List Int} (h:Fd l P out) (g:Fd l Q fo):Fd l (fun r=>P r||Q r) (out++fo):=fun n=>by
 rw[AQ,h n,g n];constructor
 ·rintro (⟨r,hr,hp,e⟩ | ⟨r,hr,hp,e⟩)
  ·exact⟨r,hr,by show (P r||Q r)=true;rw[hp];rfl,e⟩
  ·exact⟨r,hr,by show (P r||Q r)=true;rw[hp,Bool.or_true],e⟩
 ·rintro⟨r,hr,hp,e⟩;rw[Bool.or_eq_true]at hp;rcases hp with hp | hp
  ·exact .inl ⟨r,hr,hp,e⟩
  ·exact .inr ⟨r,hr,hp,e⟩
theorem y7o (h:P:=by
 constructor
 ·rintro⟨r,hr,e⟩;obtain⟨h1,h2⟩:=Be.1 hr;exact⟨r,h1,h2,e⟩
 ·rintro⟨r,hr,hp,e⟩;exact⟨r,Be.2 ⟨hr,hp⟩,e⟩):P:=h
theorem evalQ_fd (x:List Eg) (l:List Rd) (q:Qy):Fd l (fun r=>ev (leafX x r) q) (evalQ x l q):=fun n=>by
 unfold evalQ;rw[Cp.puts_mem,BG];exact y7o
theorem Fd.puts {x:List Eg}{l:List Rd}{q:Qy}{out:List Int} (h:Fd l (fun r=>ev (leafX x r) q) out):BP Bf out=evalQ x l q:=by
 unfold evalQ;refine Cp.puts_same Cp.ordI fun n=>?_;rw[h n,<- evalQ_fd x l q n];unfold evalQ;rw[Cp.puts_mem]
theorem Fd.known (l:List Rd) (ids:List Int):Fd l (fun r=>decide (r.id∈ids)) (ids.filter fun n=>decide (n∈l.map (·.id))):=fun n=>by
 rw[Be,decide_eq_true_eq,BG];constructor
 ·rintro⟨h1,r,hr,rfl⟩;exact⟨r,hr,by simpa using h1,rfl⟩
 ·rintro⟨r,hr,h1,rfl⟩;exact⟨by simpa using h1,r,hr,rfl⟩
theorem Fd.of_filter (l:List Rd) (P:Rd->Bool):Fd l P ((l.filter P).map (·.id)):=fun n=>by
 rw[BG];exact y7o
theorem put_len {α:Type} [DecidableEq α] (lt:α->α->Bool) (x:α):∀ l:List α,(D1 lt l x).length<=l.length+1
 | []=>Ad _
 | y::r=>by
  unfold D1;split
  ·have:=put_len lt x r;simp only[AH];omega
  ·split <;> simp
theorem puts_len {α:Type} [DecidableEq α] (lt:α->α->Bool) (l:List α):(BP lt l).length<=l.length:=by
 have h:∀ (l acc:List α),(l.foldl (D1 lt) acc).length<=acc.length+l.length:=by
  intro l
  induction l with
  | nil=>intro acc;simp
  | cons x r ih =>
   intro acc;have h1:=ih (D1 lt acc x);have h2:=put_len lt x acc;simp only[List.foldl_cons,AH];omega
 have:=h l [];simpa [BP] using this
theorem evalQ_len (x:List Eg) (l:List Rd) (q:Qy):(evalQ x l q).length<=l.length:=by
 unfold evalQ;refine Au (puts_len _ _) ?_;rw[List.length_map];exact List.length_filter_le _ _
end Sr
section
variable {P : Program} (w : Ab)
theorem step_append_sl2 {ops:Array Oper}{o:Oper}{a:Act}{K:Act->Ab->Prop}{Q:Exit->Act->Ab->Prop}{E:Prop} (hgd:o.guard=A0) (s x:Operand) (t:TypeId)
  (ho:o.op=.call { callee:=.builtin .append,args:=#[s,x],argTypes:=#[t,t] })
  (base:Nat) (e:TypeId) (i:TypeInfo) (z:Ak) (size bytes:Nat) (ht:P.underlying t=A3 (.slice e)) (hi:P.info? e=A3 i) (hz:i.zero=A3 z)
  (hsize:i.size=size) (hby:i.bytes=bytes) (hzs:z.cells.size=size) (hsz:0<size)
  (v:Ak) (n:Nat) (xs:List Ak) (hs:a.eval s=v) (hown:w.ownsRow base e size v n xs)
  (ao:Option Aq) (m c:Nat) (news:List Ak) (hx:a.eval x=.slice ao m c) (hl:news.length=m*size) (hno:ao=A0->m=0) (hnews:∀ ad,ao=A3 ad->∀ j u,news[j]?=A3 u->w.cell? (ad.add j)=A3 u) (h1:∀ u∈news,u.oneCell'=true)
  (h63:n+m<=Ap) (hbytes:(n+m)*bytes<=140737488355328) (hbase:base<=w.heap.size)
  (h:∀ v' w',w'.ownsRow base e size v' (n+m) (xs++news)->w.grownBy w' v.ownBlock->(v'.ownBlock=v.ownBlock\/v'.ownBlock=A3 w.heap.size)->K (a.put o.dst v') w') :
  if Region.wanted o (yielded ops a.tmps)=true then Oper.wp P o a w K Q else E:=by
 have hw:=zfv;rw[if_pos hw];cases ao with
 | none =>
  obtain rfl:=hno rfl;have hn:=zew;subst hn;have hrun:=zej;unfold Oper.wp execOp;simp only[ho,resolve,invoke,builtin,Sem.run_bind,Sem.run_pure,Result.andThen_ok,I1,BX,Do,hs,hx,hrun];exact h v w UV ⟨rfl,rfl,rfl,Ad _,fun _ _ _=>rfl⟩ (.inl rfl)
 | some ad =>
  obtain⟨v',w',hr,h2,h3,_,h5⟩:=zcn;unfold Oper.wp execOp;simp only[ho,resolve,invoke,builtin,Sem.run_bind,Sem.run_pure,Result.andThen_ok,I1,BX,Do,hs,hx,hr];exact h v' w' h2 h3 h5
end
namespace Ix
open Rc
structure BuX (w:Ab) (rs:List Rd) (wr:Ab) (k:Nat) (v:Ak) (T:List PT) (n:Nat):Prop where
 hb:Aa w.heap.size w wr
 k0:wr.heap[w.heap.size]?=A3 (.cells #[.slice A0 0 0] 24 (0,0))
 kx:wr.heap[w.heap.size+1]?=A3 (.cells #[v] 24 (0,0))
 bu:BuS wr (w.heap.size+3) v T
 lo:∀ t∈T,t.1.at_≠[]->∀ g,t.2.1=A3 g->w.heap.size+3<=g.block
 map:T.map (·.1)=(chs rs k).flatMap posts
 nm:NMap wr (w.heap.size+2) n (fun id=>if id∈(chs rs k).map (·.id) then A3 1 else A0)
 hn:n<=k
 len:T.length<=50000000*k
theorem BuX.step {w wr w':Ab}{rs:List Rd}{k n:Nat}{v:Ak}{T:List PT} (h:BuX w rs wr k v T n) (hb:Aa wr.heap.size wr w'):BuX w rs w' k v T n :=
 ⟨Ac h.hb hb,A6 h.k0 hb,A6 h.kx hb,h.bu.below hb,h.lo,h.map,h.nm.of_block (hb.block _ h.nm.lt),h.hn,h.len⟩
theorem BuX.skip {w wr:Ab}{rs:List Rd}{k n:Nat}{v:Ak}{T:List PT}{r:Rd} (h:BuX w rs wr k v T n) (hr:rs[k]?=A3 r) (hc:r.id<1\/met rs k r=true):BuX w rs wr (k+1) v T n:=by
 have e:chs rs (k+1)=chs rs k:=by rw[chs_succ hr,if_pos hc]
 have hl:=h.len;exact⟨h.hb,h.k0,h.kx,h.bu,h.lo,by rw[e];exact h.map,by rw[e];exact h.nm,Nat.le_succ_of_le h.hn,Au hl (JH _ (Nat.le_succ k))⟩
theorem BuX.size {w wr:Ab}{rs:List Rd}{k n:Nat}{v:Ak}{T:List PT} (h:BuX w rs wr k v T n):w.heap.size+2<wr.heap.size:=h.nm.lt
theorem BuX.more {w wr wa w5 w7:Ab}{rs:List Rd}{k n:Nat}{v v7:Ak}{T T5:List PT}{r:Rd} (h:BuX w rs wr k v T n) (hr:rs[k]?=A3 r) (h1:1<=r.id) (hm:met rs k r=false)
  (hna:NMap wa (w.heap.size+2) (n+1) (fun y=>if y=r.id then A3 1 else if y∈(chs rs k).map (·.id) then A3 1 else A0)) (hga:wr.grownBy wa (A3 (w.heap.size+2)))
  (hb5:Aa wa.heap.size wa w5) (hat5:Ats w5 T5) (hlo5:∀ t∈T5,∀ g,t.2.1=A3 g->wa.heap.size<=g.block) (hmap5:T5.map (·.1)=posts r) (hl5:T5.length<=50000000)
  (hg7:w5.grownBy w7 v.ownBlock) (hown7:w7.ownsRow (w.heap.size+3) 100 4 v7 (T.length+T5.length) (T.flatMap encP++T5.flatMap encP)) (hv7:v7.ownBlock=v.ownBlock\/v7.ownBlock=A3 w5.heap.size) :
  BuX w rs (w7.setCell ⟨w.heap.size+1,0,A0⟩ v7) (k+1) v7 (T++T5) (n+1):=by
 have hs:=h.size;have hsa:=hga.size;have e:chs rs (k+1)=chs rs k++[r]:=by rw[chs_succ hr,if_neg (by rintro (h9 | h9);omega;rw[hm]at h9;cases h9)]
 have hM:∀ g,v.ownBlock=A3 g->g≠w.heap.size+2:=fun g hg e9=>own_ne_nmap h.bu.own h.nm (by rw[hg,e9])
 -- the posts behind the map's writing
 have hbuA:BuS wa (w.heap.size+3) v T:=by
  refine⟨h.bu.own.kept hga ?_,fun t ht=>(h.bu.ats t ht).agree hga.size (fun hn g hg=>hga.block _ ((h.bu.ats t ht).lt hn g hg) (fun e9=>?_)),h.bu.sep⟩
  ·exact .inr (own_ne_nmap h.bu.own h.nm)
  ·have:=h.lo t ht hn g hg;injection e9 with e9;omega
 have hbu7:=hbuA.app hb5 hat5 hlo5 hg7 hown7 hv7
 have hlo:∀ t∈T++T5,t.1.at_≠[]->∀ g,t.2.1=A3 g->w.heap.size+3<=g.block:=fun t ht hn g hg=>by
  rcases AQ.1 ht with ht | ht
  ·exact h.lo t ht hn g hg
  ·have:=hlo5 t ht g hg;omega
 have hs5:=hb5.size;have hs7:=hg7.size
 have hblk:∀ j,j<wr.heap.size->j≠w.heap.size+2->A3 j≠v.ownBlock->w7.heap[j]?=wr.heap[j]?:=fun j hj hjM hjv =>
  (hg7.block j oQ hjv).trans ((hb5.block j oQ).trans (hga.block j hj (fun e9=>hjM (by injection e9))))
 have hvlo:∀ j,j<w.heap.size+3->A3 j≠v.ownBlock:=fun j hj e9=>by
  have:=(h.bu.own.lt j e9.symm).1;omega
 have hset:∀ j,j≠w.heap.size+1->(w7.setCell ⟨w.heap.size+1,0,A0⟩ v7).heap[j]?=w7.heap[j]?:=fun j hj=>Below.heap_setCell w7 ⟨w.heap.size+1,0,A0⟩ v7 j hj;refine⟨?_,?_,?_,?_,hlo,?_,?_,Nat.succ_le_succ h.hn,?_⟩
 ·have hb1:Aa w.heap.size w wa:=h.hb.grown hga oQ iX;have hb2:Aa w.heap.size w w7:=(Ac hb1 hb5).grown hg7 oQ (fun j hj=>by have:=(h.bu.own.lt j hj).1;omega);exact hb2.setCell oZ _
 ·exact (hset _ oQ).trans ((hblk _ oQ oQ (hvlo _ oQ)).trans h.k0)
 ·have h9:=(hblk (w.heap.size+1) oQ oQ (hvlo _ oQ)).trans h.kx;simp[World.setCell,Dy,h9]
 ·exact hbu7.kept (X:=w.heap.size+1) oQ (fun t ht hn g hg=>by have:=hlo t ht hn g hg;omega) hset zsu
 ·rw[AY,h.map,hmap5,e,List.flatMap_append];simp
 ·rw[e]
  have hf:(fun id=>if id∈(chs rs k++[r]).map (·.id) then A3 (1:Int) else A0)=(fun y=>if y=r.id then A3 1 else if y∈(chs rs k).map (·.id) then A3 1 else A0):=by
   funext y;rw[AY];by_cases hy:y=r.id
   ·rw[if_pos hy,if_pos (by rw[hy];simp)]
   ·rw[if_neg hy];by_cases hy2:y∈(chs rs k).map (·.id)
    ·rw[if_pos hy2,if_pos (List.mem_append_left _ hy2)]
    ·rw[if_neg hy2,if_neg (fun h9=>by
      rcases AQ.1 h9 with h9 | h9
      ·exact hy2 h9
      ·simp at h9;exact hy h9)]
  rw[hf];refine hna.of_block ((hset _ oQ).trans ((hg7.block _ (by have:=hna.lt;omega) (hvlo _ oQ)).trans (hb5.block _ hna.lt)))
 ·rw[List.length_append];have:=h.len;omega
end Ix
theorem ymx (h:P:=by
 go_wp2;go_roundw
 case rel=>exact⟨k+1,v,T,n,hlt,by go_num,hS9⟩
 case measure=>simp[Aj];omega):P:=h
theorem ix_Build_c (rs:List Rc.Rd) (a:Option Aq) (c:Nat) (w:Ab) (hG:G w) (h:Rc.RdA w a c rs) (hn:rs.length<=50) (hM:∀ r∈rs,Ix.Mod r.fields) (hV:∀ r∈rs,∀ f∈r.fields,Rc.Gd f) (hI:∀ r∈rs,-9223372036854775808<=r.id/\r.id<=9223372036854775807) :
  Af A8 55 #[.slice a rs.length c] w fun e w'=>(∃ a' c' T',e=.returned (.agg #[.slice a' (Dl T') c'])/\DT w' a' c' T'/\T'.map (·.1)=Hw rs/\T'.length<=2500000000/\Aa w.heap.size w w'):=by
 obtain⟨i0,hi0,hz0,hz1,hz2⟩:=info_parts info_post;have HI:=J hi0;clear hi0;have hcap:=h.cap;obtain⟨W,hW⟩:∃ W,((w.alloc (.cells #[.slice A0 0 0] 24)).alloc (.cells #[.slice A0 0 0] 24)).alloc (.map #[] 0)=W:=⟨_,rfl⟩
 have hS:Ix.BuX w rs W 0 (.slice A0 0 0) [] 0:=by
  refine⟨?_,?_,?_,⟨AI _ _ _ _,eZ,eZ⟩,eZ,rfl,?_,Ad _,oZ⟩
  ·rw[<- hW];exact ((A9 _ _).alloc oZ _).alloc oW _
  ·rw[<- hW];exact (hp_alloc_lt oW _).trans ((hp_alloc_lt oZ _).trans (Ae w _))
  ·rw[<- hW];exact (hp_alloc_lt oZ _).trans (by simpa using Ae (w.alloc (.cells #[.slice A0 0 0] 24)) (.cells #[.slice A0 0 0] 24))
  ·rw[<- hW];simpa [Ix.chs] using Ix.NMap.made ((w.alloc (.cells #[.slice A0 0 0] 24)).alloc (.cells #[.slice A0 0 0] 24))
 have hmm:=zmk;go_enter Tryz.func55,Tryz.ntmps55;go_wp2;clear hmm hW;go_loopw [10] (fun i wr=>∃ (k:Nat) (v:Ak) (T:List C5) (n:Nat),k<=rs.length/\i=.int .i64 k/\Ix.BuX w rs wr k v T n) (fun i _=>rs.length - (Aj i).toNat)
 case atStart=>exact⟨0,_,[],0,Am _,by go_num,hS⟩
 case round =>
  obtain⟨k,v,T,n,hk,rfl,hS1⟩:=hrel;have hss:=hS1.size;by_cases hlt:k<rs.length
  ·obtain⟨r,hr⟩:=ziq;have hrm:=List.mem_of_getElem? hr;obtain⟨b,o,fa,fc,rfl,hbl,d0,d1,d2,d3,d4,hF⟩:=h.get hr;have hF0:=hF;replace d0:=A4 hS1.hb d0;replace d1:=A4 hS1.hb d1;replace d2:=A4 hS1.hb d2;replace d3:=A4 hS1.hb d3;replace d4:=A4 hS1.hb d4;obtain⟨W1,hW1⟩:∃ W1,wr.alloc (.cells #[.int .i64 r.id,.int .i64 r.ver,.int .i64 r.kind,.string r.lang,.slice fa r.fields.length fc] 51)=W1:=⟨_,rfl⟩;have hb1:=zmr;have HKR:Hid (W1.heap[wr.heap.size]?=A3 (.cells #[.int .i64 r.id,.int .i64 r.ver,.int .i64 r.kind,.string r.lang,.slice fa r.fields.length fc] 51 (0,0))):=J (by rw[<- hW1];exact Ae wr _);obtain⟨z0,-⟩:=Tx.c1 HKR.out;have hS2:=hS1.step hb1;have hwf:(Lit.int .i64 r.id).wf=true:=WalkArith.wf_i64 (by have:=hI r hrm;omega);clear hF;by_cases hid:r.id<1
   ·have hS9:=hS2.skip hr (.inl hid);have hd:¬ 0<r.id:=oQ;have hd2:decide (0<r.id)=false:=by simp;omega
    clear hid hr;exact ymx
   ·have hd:0<r.id:=oQ;have hd2:decide (0<r.id)=true:=by simp;omega
    cases hm:Ix.met rs k r with
    | true =>
     have hS9:=hS2.skip hr (.inr hm);have hrun:=hS2.nm.look (b:=r.id) (r:=1) (by rw[if_pos ((Ix.chs_met oQ).1 hm)];rfl) hwf;clear hr hm;exact ymx
    | false =>
     have hrun:=hS2.nm.look (b:=r.id) (r:=0) (by rw[if_neg (fun h9=>by rw[<- Ix.chs_met oQ,hm]at h9;cases h9)];rfl) hwf;have HM9:=J hm;have HR9:=J hr;have HS2:=J hS2;obtain⟨va,vc,rfl,_⟩:=own_shape2 hS2.bu.own;have HNM:Hid (n<Ap):=J (by have:=hS2.hn;unfold Ap;omega);obtain⟨-,z1,z2,z3,z4,-⟩:=Tx.c5 HKR.out;clear hm hr hS2;go_wp2_with (at_mapUpdate;go_must (refine Ix.nmap_put HS2.out.nm HNM.out hwf rfl _ _ _ rfl rfl rfl rfl ?_);intro wa hma hga);have hsa:=hga.size;have h1s:=hb1.size;have HMa:=J hma;have hRl:wr.heap.size<W1.heap.size:=(AA.1 HKR.out).1;have hnR:A3 wr.heap.size≠A3 (w.heap.size+2):=fun e9=>by injection e9 with e9;omega
     have hKRa:wa.heap[wr.heap.size]?=A3 (.cells #[.int .i64 r.id,.int .i64 r.ver,.int .i64 r.kind,.string r.lang,.slice fa r.fields.length fc] 51 (0,0)):=(hga.block _ hRl hnR).trans HKR.out;obtain⟨y0,y1,y2,y3,y4,-⟩:=Tx.c5 hKRa;have hKXa:wa.heap[w.heap.size+1]?=A3 (.cells #[.slice va T.length vc] 24 (0,0)):=(hga.block _ oQ (fun e9=>by injection e9 with e9;omega)).trans HS2.out.kx;obtain⟨x0,-⟩:=Tx.c1 hKXa;have hba:Aa w.heap.size w wa:=HS2.out.hb.grown hga oQ iX;have hFa:Rc.FldA wa fa fc r.fields:=hF0.below hba;have hownA:wa.ownsRow (w.heap.size+3) 100 4 (.slice va T.length vc) T.length (T.flatMap Ix.encP):=HS2.out.bu.own.kept hga (.inr (Ix.own_ne_nmap HS2.out.bu.own HS2.out.nm));have HOA:=J hownA;have HKXA:=J hKXa;have hTl:=HS2.out.len;have hTl2:T.length<=2500000000:=Au hTl (by have:50000000*k<=50000000*50:=JH _ oQ;omega);clear hownA hma hKXa hTl;have CP:Hid (∀ w',Aa wa.heap.size wa w'->Af A8 119 #[.agg #[.int .i64 r.id,.int .i64 r.ver,.int .i64 r.kind,.string r.lang,.slice fa r.fields.length fc]] w' fun e w''=>(∃ v T,e=.returned v/\Ix.OwnP w'' w'.heap.size v T/\Ix.Ats w'' T/\(∀ t∈T,∀ g,t.2.1=A3 g->w'.heap.size<=g.block)/\T.map (·.1)=Ix.posts r/\Dl T<=50000000/\Aa w'.heap.size w' w'')):=J (fun w' hb'=>ix_posts_c r fa fc w' (hG.below (Ac hba hb')) (hFa.below hb') (hM r hrm) (hV r hrm));have hbq:=(Below.refl wa.heap.size wa).drew;have hq9:=hbq.size;have hA1:T.length+50000000<=Ap:=by unfold Ap;omega
     go_region_law (first
      |(refine step_append_sl2 _ oV _ _ 22 oV (w.heap.size+3) 100 i0 _ 4 56 Tryz.underlying22 HI.out hz0 hz1 hz2 oV oX _ T.length _ oV HOA5.out a5 T5.length c5 (T5.flatMap Ix.encP) oV (Br.flat_len Ix.encP 4 Ix.encP_len T5) HP5.out.fa.none (HP5.out.fa.cells Ix.encP_len oX) (Br.flat_one Ix.p_one T5) oK oQ oQ ?_;intro v7 w7 hown7 hg7 hv7;obtain⟨a7,c7,rfl,_⟩:=own_shape2 hown7;have HV7:=J hv7;have HO7:=J hown7;clear hv7 hown7;obtain⟨x7c,x7f,x7l⟩:=A7 ((hg7.block (w.heap.size+1) oQ (fun e9=>by have:=(HOA5.out.lt _ e9.symm).1;omega)).trans ((hb5.block _ oQ).trans HKXA.out)))
      |(go_simp;go_at_call 119;((with_reducible refine (CP.out _ hbq).mono ?_);rintro e w5 ⟨v5,T5,rfl,hown5,hat5,hlo5,hmap5,hl5,hb5x⟩;have HMP:=J hmap5;have HAT5:=J hat5;have HLO5:=J hlo5;obtain⟨a5,c5,rfl,hps5,_⟩:=Ix.OwnP.ps hown5 hat5;have HP5:=J hps5;have hb5:=Ac hbq hb5x;have HOA5:=J (B4 HOA.out hb5);have hs5:=hb5.size;have x5:=A4 hb5 x0;clear hmap5 hat5 hlo5 hps5 hown5)))
     all_goals
      have hS9:=HS2.out.more HR9.out oQ HM9.out HMa.out hga hb5 HAT5.out (fun t ht g hg=>by have:=HLO5.out t ht g hg;omega) HMP.out hl5 hg7 HO7.out HV7.out;go_wp2;go_roundw
      case rel=>exact⟨k+1,_,_,n+1,hlt,by go_num,hS9⟩
      case measure=>simp[Aj];omega
  ·obtain rfl:k=rs.length:=oQ;obtain⟨va,vc,rfl,_⟩:=own_shape2 hS1.bu.own;obtain⟨xc,xf,xl⟩:=A7 hS1.kx;obtain⟨kc,kf,kl⟩:=A7 hS1.k0;have HS1:=J hS1;have hTl2:T.length<=2500000000:=Au hS1.len (by have:50000000*rs.length<=50000000*50:=JH _ oQ;omega)
   have hvlo:∀ j,j<w.heap.size+3->A3 j≠(E0 va T.length vc).ownBlock:=fun j hj e9=>by
    have:=(HS1.out.bu.own.lt j e9.symm).1;omega
   have HVLO:=J hvlo;clear hS1 hvlo;go_wp2_with (go_at_call 120;(with_reducible refine (ix_sorted_c HS1.out.bu.own oQ).mono ?_);rintro e w5 ⟨rfl,S,hperm,hpw,hownS,hg5⟩;have x5:=A7 ((hg5.block (w.heap.size+1) oQ (HVLO.out _ oQ)).trans HS1.out.kx);have y5:=A7 ((hg5.block w.heap.size oQ (HVLO.out _ oQ)).trans HS1.out.k0);obtain⟨x5c,x5f,x5l⟩:=x5;obtain⟨y5c,y5f,y5l⟩:=y5;have HOS:=J hownS;have HPW:=J hpw;clear hownS hpw);have hl9:S.length=T.length:=hperm.length_eq;have hBS:=HS1.out.bu.sorted hperm hg5 HOS.out;obtain⟨a9,c9,e9,hps9,hlo9⟩:=Ix.OwnP.ps HOS.out hBS.ats;injection e9 with e9a _ e9c;subst e9a e9c;have hb9:Aa w.heap.size w w5:=HS1.out.hb.grown hg5 oQ (fun j hj=>by have:=(HS1.out.bu.own.lt j hj).1;omega);have hmap9:S.map (·.1)=Hw rs:=Ix.build_sorted (by rw[<- HS1.out.map];exact hperm.map _) (by rw[List.pairwise_map];exact HPW.out);have hfar:Ix.Far S va w.heap.size:=⟨fun _ g hg=>by have:=hlo9 g hg;omega,fun t ht hn g hg=>by have:=HS1.out.lo t (hperm.mem_iff.1 ht) hn g hg;omega⟩;refine bodyPost_ret (v:=.agg #[.slice va T.length vc]) (by simp[results,Tryz.results55,go_sem,y5c]) rfl ⟨va,vc,S,by rw[hl9],?_,hmap9,oQ,?_⟩
   ·exact hps9.set hfar _ _
   ·exact hb9.setCell oZ _
section
open Go.Sort
theorem grownBy_put {α:Type} [Inhabited α] {enc:α->Ak}{w:Ab}{g q:Nat}{d:Array α}:w.grownBy (putRow enc (Sort.ahead w q) g 0 d) (A3 g):=by
 refine⟨rfl,rfl,rfl,by simp[putRow,mapBlock,Sort.ahead],fun k hk hne=>?_⟩;have:g≠k:=fun e=>hne (by rw[e]);simp[putRow,mapBlock,Sort.ahead,Dy,this]
theorem SortI_c {v:Ak}{bs:List Int}{B:Nat}{w:Ab} (h:w.ownsRow B 3 1 v bs.length (bs.map (B3 .i64))) (hl:bs.length<=1000000000000) :
  Af A8 87 #[v] w fun e w'=>e=.returned (.tuple #[])/\w'.ownsRow B 3 1 v bs.length ((bs.mergeSort fun x y=>decide (x<=y)).map (B3 .i64))/\w.grownBy w' v.ownBlock:=by
 rcases h.2 with⟨rfl,h0⟩ | ⟨g,cap,cur,rfl,hbase,hb,h1,h2,h3,h4⟩
 ·refine (Tryz.slices_Sort_int_none A0 0 w).mono fun e w' ⟨he,hw⟩=>?_;subst hw;have hnil:=zox;subst hnil;exact⟨he,by rw[List.mergeSort_nil];exact AI _ _ _ _,⟨rfl,rfl,rfl,Ad _,fun _ _ _=>rfl⟩⟩
 ·refine (Tryz.slices_Sort_int g 0 cap bs w (holds_of_blockI hb (by simpa using h4)) (AA.1 hb).1 oQ).mono fun e w' ⟨he,n,os,hw⟩=>?_;subst hw;exact⟨he,ownsRow_sortedI oZ hbase hb h1 h2 h3,grownBy_sortedI _⟩
theorem CompactI_c {v:Ak}{xs:List Int}{B:Nat}{w:Ab} (h:w.ownsRow B 3 1 v xs.length (xs.map (B3 .i64))) (hl:xs.length<=1000000000000) :
  Af A8 88 #[v] w fun e w'=>∃ va vc,e=.returned (.slice va (FE xs).length vc)/\w'.ownsRow B 3 1 (.slice va (FE xs).length vc) (FE xs).length ((FE xs).map (B3 .i64))/\(E0 va (FE xs).length vc).ownBlock=v.ownBlock/\w.grownBy w' v.ownBlock:=by
 by_cases hnil:v=.slice A0 0 0
 ·subst hnil
  have h0:xs=[]:=by
   rcases h.2 with⟨_,h0⟩ | ⟨g,cap,cur,e0,_⟩
   ·exact Ar h0
   ·cases e0
  subst h0;refine (Tryz.slices_Compact_int_empty A0 0 w).mono fun e w' ⟨he,hw⟩=>?_;subst hw;exact⟨A0,0,he,AI _ _ _ _,rfl,⟨rfl,rfl,rfl,Ad _,fun _ _ _=>rfl⟩⟩
 ·obtain⟨g,cap,rfl,hbg,hgl,hncap,hcm,hlen,hH⟩:=Lib.holds_of_ownsRow (enc:=B3 .i64) h hnil;have hle:=Lib.compact_length_le xs;refine (Tryz.slices_Compact_int g 0 cap xs w hH oQ hncap).mono fun e w' ⟨he,q,hw⟩=>?_;subst hw;have hc:=Lib.ownsRow_putRow (enc:=B3 .i64) (q:=q) (k:=(FE xs).length) (ys:=FE xs++List.replicate (xs.length - (FE xs).length) 0) h oW hle;rw[List.take_left]at hc;exact⟨_,cap,he,hc,rfl,grownBy_put⟩
namespace Cp
theorem sorted_pairI (bs:List Int):(bs.mergeSort fun x y=>decide (x<=y)).Pairwise fun x y=>ltI y x=false:=by
 have h:=List.pairwise_mergeSort (le:=fun x y:Int=>decide (x<=y)) (fun a b c h1 h2=>by simp at *;omega) (fun a b=>by simp;omega) bs;exact h.imp fun h=>by unfold ltI;simp at *;omega
theorem compact_sortedI (xs:List Int):FE (xs.mergeSort fun x y=>decide (x<=y))=puts ltI xs:=compact_puts ordI (List.mergeSort_perm _ _) (sorted_pairI xs)
end Cp
end
theorem ixw_clo (y:Eg) (ya:Option Aq) (yc p1 p2:Nat) (f:Int) (s:GR) (w:Ab) (k1:w.cell? ⟨p1,0,A0⟩=A3 (.int .i64 f)) (k2:w.cell? ⟨p2,0,A0⟩=A3 (.string ⟨s.toArray⟩)) (_l1:p1<w.heap.size) (_l2:p2<w.heap.size) :
  Af A8 149 #[.agg #[.int .i64 y.fld,.string ⟨y.word.toArray⟩,.int .i64 y.id,.slice ya y.at_.length yc],.pointer (A3 ⟨p1,0,A0⟩),.pointer (A3 ⟨p2,0,A0⟩)] w fun e w'=>e=.returned (.bool (CL f s y))/\Aa w.heap.size w w':=by
 obtain⟨W,hW,hB,z0,z1,-,-⟩:=zfr;have k1':=A4 hB k1;have k2':=A4 hB k2;clear k1 k2;by_cases h1:y.fld=f
 ·have t0:(y.fld == f)=true:=by simpa using h1
  have HR:Hid (CL f s y=(y.word == s)):=J (by unfold CL;simp[h1]);clear h1;go_enter Tryz.func149,Tryz.ntmps149;go_wp2;go_ret;exact⟨by rw[HR.out];rfl,hB⟩
 ·have t0:(y.fld == f)=false:=by simpa using h1
  have HR:Hid (CL f s y=false):=J (by unfold CL;simp[h1]);clear h1;go_enter Tryz.func149,Tryz.ntmps149;go_wp2;go_ret;exact⟨by rw[HR.out];rfl,hB⟩
theorem ixp_clo (y:Eg) (ya:Option Aq) (yc p1 p2:Nat) (f:Int) (s:GR) (w:Ab) (k1:w.cell? ⟨p1,0,A0⟩=A3 (.string ⟨s.toArray⟩)) (k2:w.cell? ⟨p2,0,A0⟩=A3 (.int .i64 f)) (_l1:p1<w.heap.size) (_l2:p2<w.heap.size) :
  Af A8 150 #[.agg #[.int .i64 y.fld,.string ⟨y.word.toArray⟩,.int .i64 y.id,.slice ya y.at_.length yc],.pointer (A3 ⟨p1,0,A0⟩),.pointer (A3 ⟨p2,0,A0⟩)] w fun e w'=>e=.returned (.bool (Cj f s y))/\Aa w.heap.size w w':=by
 obtain⟨W,hW,hB,z0,z1,-,-⟩:=zfr;have k1':=A4 hB k1;have k2':=A4 hB k2;clear k1 k2;by_cases h0:s=[]
 ·have t:(s == [])=true:=by simpa using h0
  have HR:Hid (Cj f s y=false):=J (by unfold Cj;simp[h0]);clear h0;go_enter Tryz.func150,Tryz.ntmps150;go_wp2;go_ret;exact⟨by rw[HR.out];rfl,hB⟩
 have t:(s == [])=false:=by simpa using h0
 by_cases h1:y.fld=f
 ·have t0:(y.fld == f)=true:=by simpa using h1
  have hbp:Ix.begP s y.word=Dh y.word s:=by
   unfold Ix.begP Dh;rw[Bool.eq_iff_iff,beq_iff_eq,List.isPrefixOf_iff_prefix,List.prefix_iff_eq_take];exact eq_comm
  have HR:Hid (Cj f s y=Dh y.word s):=J (by unfold Cj;rw[hbp];simp[h0,h1]);have HC:Hid (∀ w',Af A8 65 #[.string ⟨y.word.toArray⟩,.string ⟨s.toArray⟩] w' fun e w''=>e=.returned (.bool (Dh y.word s))/\w''=w'):=J (fun w'=>by have h9:=Tryz.strings_HasPrefix ⟨y.word.toArray⟩ ⟨s.toArray⟩ w';simpa using h9);obtain⟨q,hq⟩:∃ q,Dh y.word s=q:=⟨_,rfl⟩;rw[hq]at HR HC;clear h0 h1 hbp hq;go_enter Tryz.func150,Tryz.ntmps150;go_wp2_with (go_at_call 65;(with_reducible refine (HC.out _).mono ?_);rintro e w1 ⟨rfl,rfl⟩);go_ret;exact⟨by rw[HR.out];rfl,hB⟩
 ·have t0:(y.fld == f)=false:=by simpa using h1
  have HR:Hid (Cj f s y=false):=J (by unfold Cj;simp[h1]);clear h0 h1;go_enter Tryz.func150,Tryz.ntmps150;go_wp2;go_ret;exact⟨by rw[HR.out];rfl,hB⟩
theorem yn4 (h:P:=by
 rw[hL]at hown hil;have hcs:=Cp.compact_sortedI L;obtain⟨M,hMd⟩:=zoy;have hMl:=znn;rw[hMd]at hcs;have HCS:=J hcs;have HMD:=J hMd;have HL:=J hL;have HMl:=J hMl;clear hcs hMd hL hMl
 go_wp2_with (first
  |(go_at_call 87;(with_reducible refine (SortI_c hown oQ).mono ?_);rintro e w3 ⟨rfl,hown3,hg3⟩;rw[HMD.out,<- HMl.out]at hown3;have hb3:=hb.grown hg3 hbs (fun j hj=>(hown.lt j hj).1))
  |(go_at_call 88;(with_reducible refine (CompactI_c hown3 (by have:=HMl.out;omega)).mono ?_);rintro e w4 ⟨va,vc,rfl,hown4,hv4,hg4⟩;have hb4:=hb3.grown hg4 hb3.size (fun j hj=>(hown3.lt j hj).1)))
 go_ret;rw[HCS.out]at hown4;exact⟨_,rfl,by rw[HL.out];exact Ix.row_lower (by rw[HCS.out];exact hown4) hbB,Ac hB hb4⟩):P:=h
theorem ya2 (h:P:=by
 go_roundw
 case rel=>exact⟨k+1,hlt,by go_num,by rw[HIT.out];exact Ix.ownI_snoc hown7,(hb3.alloc hb3s _).grown hg7 oW (fun j hj=>(own3.lt j hj).1)⟩
 case measure=>simp[Aj];omega):P:=h
theorem yut (h:P:=by
 go_roundw
 case rel=>exact⟨k+1,hlt,by go_num,by rw[HIT.out];exact B4 (B4 hown hb1) hb3x,Ac hbW hb3x⟩
 case measure=>simp[Aj];omega):P:=h
theorem vja (h:P:=by
 obtain⟨i0,hi0,hz0,hz1,hz2⟩:=zhb;have HI:=J hi0;clear hi0;have hcap:=h.fa.cap;obtain⟨W,hW,hB,c0⟩:=zcy;have HS:=J (h.below hB);clear h;have hbB:=hB.size;have HK1:=J (A4 hB k1);have HK2:=J (A4 hB k2);clear k1 k2;go_enter Tryz.func148,Tryz.ntmps148;go_wp2;clear hW
 first
  |go_loopw [5,11] (fun v i wr=>∃ (k:Nat),k<=T.length/\i=.int .i64 k/\Bq wr W.heap.size v (Eu (CL f s) (T.take k))/\Aa W.heap.size W wr) (fun _ i _=>T.length - (Aj i).toNat)
   case atStart=>exact⟨0,Am _,by go_num,AI _ _ _ _,Below.refl _ _⟩
   case round =>
    obtain⟨k,hk,rfl,hown,hb⟩:=hrel;have hbs:=hb.size;by_cases hlt:k<T.length
    ·obtain⟨⟨y,ya,yc⟩,hy⟩:=zaz;have hit:=Ix.idsT_take (p:=CL f s) hy;have hil:=KO (CL f s) (T.take k);rw[Az]at hil;obtain⟨b,o,rfl,hbl,g0,g1,g2,g3,_⟩:=zkd;simp only at g0 g1 g2 g3 hit;replace g0:=A4 hb g0;replace g1:=A4 hb g1;replace g2:=A4 hb g2;replace g3:=A4 hb g3;obtain⟨L,hL⟩:∃ L,Eu (CL f s) (T.take k)=L:=⟨_,rfl⟩;rw[hL]at hown hit hil;have HK:Hid (L.length<=5000000000):=J oQ;obtain⟨W1,hW1,hb1,z0,z1,z2,z3⟩:=zbd;have hbW:=Ac hb hb1;have hs1:=hbW.size;have CQ:Hid (∀ v,CL f s y=v->Af A8 149 #[.agg #[.int .i64 y.fld,.string ⟨y.word.toArray⟩,.int .i64 y.id,.slice ya y.at_.length yc],.pointer (A3 ⟨p1,0,A0⟩),.pointer (A3 ⟨p2,0,A0⟩)] W1 fun e w'=>e=.returned (.bool v)/\Aa W1.heap.size W1 w'):=J (fun v hv=>by rw[<- hv];exact ixw_clo y ya yc p1 p2 f s W1 (A4 hbW HK1.out) (A4 hbW HK2.out) oQ oQ);clear hL hy hil;cases hP:CL f s y with
     | true =>
      rw[if_pos hP]at hit;have HIT:=zom;have HP:=J hP;clear hit hP
      go_wp2_with (first
       |(at_builtin;refine wpList_append_sl rfl _ _ 35 rfl W.heap.size 3 i0 _ 1 8 Bk HI.out hz0 hz1 hz2 rfl oX _ (L.length) _ rfl (own3.alloc _) (A3 ⟨_,0,A0⟩) 1 1 [.int .i64 y.id] rfl rfl oF oD oG aJ aW oW ?_;intro v7 w7 hown7 hg7 hnil7)
       |(go_at_call 149;(with_reducible refine (CQ.out true HP.out).mono ?_);rintro e w3 ⟨rfl,hb3x⟩;have hb3:=Ac hbW hb3x;have own3:=B4 (B4 hown hb1) hb3x;have x2:=A4 hb3x z2;have hb3s:=hb3.size))
      exact ya2
     | false =>
      rw[if_neg qV,AB]at hit;have HIT:=zom;have HP:=J hP;clear hit hP;go_wp2_with (go_at_call 149;(with_reducible refine (CQ.out false HP.out).mono ?_);rintro e w3 ⟨rfl,hb3x⟩);exact yut
    ·obtain rfl:k=T.length:=oQ;rw[At]at hown;have hil:=KO (CL f s) T;obtain⟨L,hL⟩:∃ L,Eu (CL f s) T=L:=⟨_,rfl⟩;exact yn4
  |go_loopw [5,11] (fun v i wr=>∃ (k:Nat),k<=T.length/\i=.int .i64 k/\Bq wr W.heap.size v (Eu (Cj f s) (T.take k))/\Aa W.heap.size W wr) (fun _ i _=>T.length - (Aj i).toNat)
   case atStart=>exact⟨0,Am _,by go_num,AI _ _ _ _,Below.refl _ _⟩
   case round =>
    obtain⟨k,hk,rfl,hown,hb⟩:=hrel;have hbs:=hb.size;by_cases hlt:k<T.length
    ·obtain⟨⟨y,ya,yc⟩,hy⟩:=zaz;have hit:=Ix.idsT_take (p:=Cj f s) hy;have hil:=KO (Cj f s) (T.take k);rw[Az]at hil;obtain⟨b,o,rfl,hbl,g0,g1,g2,g3,_⟩:=zkd;simp only at g0 g1 g2 g3 hit;replace g0:=A4 hb g0;replace g1:=A4 hb g1;replace g2:=A4 hb g2;replace g3:=A4 hb g3;obtain⟨L,hL⟩:∃ L,Eu (Cj f s) (T.take k)=L:=⟨_,rfl⟩;rw[hL]at hown hit hil;have HK:Hid (L.length<=5000000000):=J oQ;obtain⟨W1,hW1,hb1,z0,z1,z2,z3⟩:=zbd;have hbW:=Ac hb hb1;have hs1:=hbW.size;have CQ:Hid (∀ v,Cj f s y=v->Af A8 150 #[.agg #[.int .i64 y.fld,.string ⟨y.word.toArray⟩,.int .i64 y.id,.slice ya y.at_.length yc],.pointer (A3 ⟨p1,0,A0⟩),.pointer (A3 ⟨p2,0,A0⟩)] W1 fun e w'=>e=.returned (.bool v)/\Aa W1.heap.size W1 w'):=J (fun v hv=>by rw[<- hv];exact ixp_clo y ya yc p1 p2 f s W1 (A4 hbW HK1.out) (A4 hbW HK2.out) oQ oQ);clear hL hy hil;cases hP:Cj f s y with
     | true =>
      rw[if_pos hP]at hit;have HIT:=zom;have HP:=J hP;clear hit hP
      go_wp2_with (first
       |(at_builtin;refine wpList_append_sl rfl _ _ 35 rfl W.heap.size 3 i0 _ 1 8 Bk HI.out hz0 hz1 hz2 rfl oX _ (L.length) _ rfl (own3.alloc _) (A3 ⟨_,0,A0⟩) 1 1 [.int .i64 y.id] rfl rfl oF oD oG aJ aW oW ?_;intro v7 w7 hown7 hg7 hnil7)
       |(go_at_call 150;(with_reducible refine (CQ.out true HP.out).mono ?_);rintro e w3 ⟨rfl,hb3x⟩;have hb3:=Ac hbW hb3x;have own3:=B4 (B4 hown hb1) hb3x;have x2:=A4 hb3x z2;have hb3s:=hb3.size))
      exact ya2
     | false =>
      rw[if_neg qV,AB]at hit;have HIT:=zom;have HP:=J hP;clear hit hP;go_wp2_with (go_at_call 150;(with_reducible refine (CQ.out false HP.out).mono ?_);rintro e w3 ⟨rfl,hb3x⟩);exact yut
    ·obtain rfl:k=T.length:=oQ;rw[At]at hown;have hil:=KO (Cj f s) T;obtain⟨L,hL⟩:∃ L,Eu (Cj f s) T=L:=⟨_,rfl⟩;exact yn4):P:=h
theorem ixw_records (T:List C5) (a:Option Aq) (c p1 p2:Nat) (f:Int) (s:GR) (w:Ab) (h:DT w a c T) (hn:T.length<=5000000000) (k1:w.cell? ⟨p1,0,A0⟩=A3 (.int .i64 f)) (k2:w.cell? ⟨p2,0,A0⟩=A3 (.string ⟨s.toArray⟩)) (l1:p1<w.heap.size) (l2:p2<w.heap.size) :
  Af A8 148 #[.agg #[.slice a T.length c],.func (.func 149) #[] #[.pointer (A3 ⟨p1,0,A0⟩),.pointer (A3 ⟨p2,0,A0⟩)]] w fun e w'=>∃ v,e=.returned v/\Bq w' w.heap.size v (BP Bf (Eu (CL f s) T))/\Aa w.heap.size w w':=by
 exact vja
theorem ixp_records (T:List C5) (a:Option Aq) (c p1 p2:Nat) (f:Int) (s:GR) (w:Ab) (h:DT w a c T) (hn:T.length<=5000000000) (k1:w.cell? ⟨p1,0,A0⟩=A3 (.string ⟨s.toArray⟩)) (k2:w.cell? ⟨p2,0,A0⟩=A3 (.int .i64 f)) (l1:p1<w.heap.size) (l2:p2<w.heap.size) :
  Af A8 148 #[.agg #[.slice a T.length c],.func (.func 150) #[] #[.pointer (A3 ⟨p1,0,A0⟩),.pointer (A3 ⟨p2,0,A0⟩)]] w fun e w'=>∃ v,e=.returned v/\Bq w' w.heap.size v (BP Bf (Eu (Cj f s) T))/\Aa w.heap.size w w':=by
 exact vja
theorem ysw (h:P:=by
 rw[<- hW];have h9:=Ae ((w.alloc (.cells #[.slice a T.length c] 24)).alloc (.cells #[.int .i64 f] 3)) (.cells #[.string ⟨s.toArray⟩] 9);rw[An,An]at h9;exact (A7 h9).1 0):P:=h
theorem yqa (h:P:=by
 rw[<- hW];have h9:=Ae (w.alloc (.cells #[.slice a T.length c] 24)) (.cells #[.int .i64 f] 3);rw[An]at h9;exact (A7 (A6 h9 (A9 _ _))).1 0):P:=h
theorem ymf (h:P:=by
 go_wp2_with (go_at_call 148;(with_reducible refine CR.out.mono ?_);rintro e w3 ⟨v,rfl,hown,hb3⟩);go_ret;exact⟨_,rfl,Ix.row_lower hown hB.size,Ac hB hb3⟩):P:=h
theorem y1j (h:P:=by
 rw[<- hW];exact (A7 (A6 (A6 (Ae w (.cells #[.slice a T.length c] 24)) (A9 _ _)) (A9 _ _))).1 0):P:=h
theorem vse (h:P:=by
 obtain⟨W,hW⟩:∃ W,((w.alloc (.cells #[.slice a T.length c] 24)).alloc (.cells #[.int .i64 f] 3)).alloc (.cells #[.string ⟨s.toArray⟩] 9)=W:=⟨_,rfl⟩;have hB:=zbl;have hsW:=zqq
 have c0:W.cell? ⟨w.heap.size,0,A0⟩=A3 (.slice a T.length c):=by
  exact y1j
 have k1:W.cell? ⟨w.heap.size+1,0,A0⟩=A3 (.int .i64 f):=by
  exact yqa
 have k2:W.cell? ⟨w.heap.size+1+1,0,A0⟩=A3 (.string ⟨s.toArray⟩):=by
  exact ysw
 first
  |have CR:Hid (Af A8 148 #[.agg #[.slice a T.length c],.func (.func 149) #[] #[.pointer (A3 ⟨w.heap.size+1,0,A0⟩),.pointer (A3 ⟨w.heap.size+1+1,0,A0⟩)]] W fun e w'=>∃ v,e=.returned v/\Bq w' W.heap.size v (BP Bf (Eu (CL f s) T))/\Aa W.heap.size W w'):=J (ixw_records T a c _ _ f s W (h.below hB) hn k1 k2 oQ oQ)
   have hmf:=za;clear h;go_enter Tryz.func81,Tryz.ntmps81;exact ymf
  |have CR:Hid (Af A8 148 #[.agg #[.slice a T.length c],.func (.func 150) #[] #[.pointer (A3 ⟨w.heap.size+1+1,0,A0⟩),.pointer (A3 ⟨w.heap.size+1,0,A0⟩)]] W fun e w'=>∃ v,e=.returned v/\Bq w' W.heap.size v (BP Bf (Eu (Cj f s) T))/\Aa W.heap.size W w'):=J (ixp_records T a c _ _ f s W (h.below hB) hn k2 k1 oQ oQ)
   have hmf:=za;clear h;go_enter Tryz.func82,Tryz.ntmps82;exact ymf):P:=h
theorem ix_Word_c (T:List C5) (a:Option Aq) (c:Nat) (f:Int) (s:GR) (w:Ab) (h:DT w a c T) (hn:T.length<=5000000000) :
  Af A8 81 #[.agg #[.slice a T.length c],.int .i64 f,.string ⟨s.toArray⟩] w fun e w'=>∃ v,e=.returned v/\Bq w' w.heap.size v (BP Bf (Eu (CL f s) T))/\Aa w.heap.size w w':=by
 exact vse
theorem ix_Prefix_c (T:List C5) (a:Option Aq) (c:Nat) (f:Int) (s:GR) (w:Ab) (h:DT w a c T) (hn:T.length<=5000000000) :
  Af A8 82 #[.agg #[.slice a T.length c],.int .i64 f,.string ⟨s.toArray⟩] w fun e w'=>∃ v,e=.returned v/\Bq w' w.heap.size v (BP Bf (Eu (Cj f s) T))/\Aa w.heap.size w w':=by
 exact vse
namespace Sr
open Rc hiding bys
open Qr
def bs (l:By):ByteArray:=⟨l.toArray⟩
def bookF (title:By):Fl:=⟨bs [50,52,53],bs [32,32],[(97,bs title)],0⟩
def bookY (year:By):Fl:=⟨bs [50,54,52],bs [32,49],[(99,bs year)],0⟩
def book (id:Int) (title year:By):Rd:=⟨id,3,1,bs [101,110,103],if year=[] then [bookF title] else [bookF title,bookY year]⟩
def ex3:List Rd:=[book 1 [84,104,101,32,68,111,103,115] [49,57,57,56],book 2 [67,97,116,115] [50,48,48,49],book 3 [68,111,103,115,32,97,110,100,32,67,97,116,115] []]
def wq (w:By):Qy:=.mk 1 0 [bs w] 0 0 []
def exFind (q:Qy) (by_:Int):List Int:=order ex3 (evalQ (Hw ex3) ex3 q) by_ [101,110,103]
theorem ex_parse1:parse [100,111,103,115]=(wq [100,111,103,115],0):=by kernel_rfl
theorem ex_parse2:parse [99,97,116,115]=(wq [99,97,116,115],0):=by kernel_rfl
theorem ex_parse3:parse [121,101,97,114,58,49,57,57,48,45,50,48,48,53]=(.mk 4 0 [] 1990 2005 [],0):=by kernel_rfl
theorem ex_parse4:parse [100,111,103,115,32,78,79,84,32,99,97,116,115]=(.mk 7 0 [] 0 0 [wq [100,111,103,115],wq [99,97,116,115]],0):=by kernel_rfl
theorem ex_parse5:(parse [40]).2=3:=by kernel_rfl
theorem ex_find1:exFind (wq [100,111,103,115]) 0=[1,3]:=by kernel_rfl
theorem ex_find2:exFind (wq [100,111,103,115]) 1=[1,3]:=by kernel_rfl
theorem ex_find3:exFind (wq [99,97,116,115]) 1=[2,3]:=by kernel_rfl
theorem ex_find4:exFind (.mk 4 0 [] 1990 2005 []) 3=[2,1]:=by kernel_rfl
theorem ex_find5:exFind (.mk 7 0 [] 0 0 [wq [100,111,103,115],wq [99,97,116,115]]) 0=[1]:=by kernel_rfl
end Sr
end Go.Proofs.YtlakomilichhnaaGreatDoor
