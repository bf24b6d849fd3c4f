/- Parts. -/
import Derived.Test.YtlakomilichhnaaGreatDoorROd
import Derived.Test.YtlakomilichhnaaGreatDoorROb
namespace Go.Proofs.YtlakomilichhnaaGreatDoor
set_option maxHeartbeats 1600000
set_option maxRecDepth 100000
open Go.RowKit
open Br renaming cells_new_at->AD
open Go renaming Addr->Aq,TypeId->Bo,Value->Ak,World->Ab,cell_later->A4,maxLen->Ap
open Lib renaming hid->J
open List renaming getElem?_eq_getElem->Ai,getElem?_eq_some_iff->Av,length_map->Ax,map_cons->BX,map_nil->Do,map_toArray->I1,mem_of_getElem?->AJ,take_append_drop->BY,take_length->At
open Nat renaming add_assoc->Ju,le_refl->Ad,le_trans->Au,lt_of_lt_of_le->AN,zero_add->Ct,zero_le->Am
open Option renaming none->A0,some->A3
open Proofs.Tryz renaming prog->A8
open Qr renaming depthL->Jd,nodes->Eb,nodesL->CO,nodesL_app->FJ
open RowKit renaming Below->Aa
open RowKit.Below renaming heap_setCell->D4,refl->Ah
variable {P:Prop}
namespace Br
structure FA {α:Type} (enc:α->List Ak) (size:Nat) (w:Ab) (a:Option Aq) (c:Nat) (xs:List α):Prop where
 cap:xs.length<=c
 max:c<=Ap
 at_:∃ b o,(xs≠[]->a=A3 ⟨b,o,A0⟩/\b<w.heap.size)/\∀ (j i:Nat) (x:α) (u:Ak),xs[j]?=A3 x->(enc x)[i]?=A3 u->w.cell? ⟨b,o+j*size+i,A0⟩=A3 u
variable {α : Type} {enc : α -> List Ak} {size : Nat}
theorem FA.below {w w':Ab}{a:Option Aq}{c:Nat}{xs:List α} (h:FA enc size w a c xs) (hb:Aa w.heap.size w w'):FA enc size w' a c xs:=by
 obtain⟨b,o,h1,h2⟩:=h.at_;exact⟨h.cap,h.max,b,o,fun hn=>⟨(h1 hn).1,AN (h1 hn).2 hb.size⟩,fun j i x u hx hu=>A4 hb (h2 j i x u hx hu)⟩
theorem FA.get {w:Ab}{a:Option Aq}{c:Nat}{xs:List α} (h:FA enc size w a c xs) {k:Nat}{x:α} (hk:xs[k]?=A3 x) :
  ∃ b o,a=A3 ⟨b,o,A0⟩/\b<w.heap.size/\∀ i u,(enc x)[i]?=A3 u->w.cell? ⟨b,o+k*size+i,A0⟩=A3 u:=by
 obtain⟨b,o,h1,h2⟩:=h.at_;have hne:=ziw;exact⟨b,o,(h1 hne).1,(h1 hne).2,fun i u hu=>h2 k i x u hk hu⟩
theorem FA.none {w:Ab}{a:Option Aq}{c:Nat}{xs:List α} (h:FA enc size w a c xs):a=A0->xs.length=0:=by
 intro ha;obtain⟨b,o,h1,_⟩:=h.at_;cases xs with
 | nil=>rfl
 | cons x r=>have:=(h1 oZ).1;rw[ha]at this;cases this
theorem FA.cells (hs:∀ x,(enc x).length=size) (h0:0<size) {w:Ab}{a:Option Aq}{c:Nat}{xs:List α} (h:FA enc size w a c xs):∀ ad,a=A3 ad->∀ j u,(xs.flatMap enc)[j]?=A3 u->w.cell? (ad.add j)=A3 u:=by
 intro ad ha j u hj
 have hl:j<xs.length*size:=by
  have:=(Av.1 hj).1;rw[flat_len enc size hs]at this;exact this
 have hk:j / size<xs.length:=(Nat.div_lt_iff_lt_mul h0).2 hl;obtain⟨x,hx⟩:∃ x,xs[j / size]?=A3 x:=⟨_,Ai hk⟩;have hi:=Nat.mod_lt j h0;have e:j / size*size+j % size=j:=by rw[Nat.mul_comm];exact Nat.div_add_mod j size
 have hf:=flat_at enc size hs xs (j / size) (j % size) x hx hi;rw[e,hj]at hf;obtain⟨b,o,hb,_,hc⟩:=h.get hx;rw[hb]at ha;injection ha with ha;subst ha;have:=hc (j % size) u hf.symm;rw[Ju,e]at this;rw[Cs.add_at];exact this
theorem FA.of_own (hs:∀ x,(enc x).length=size) {w:Ab}{B e n:Nat}{v:Ak}{xs:List α} (h:w.ownsRow B e size v n (xs.flatMap enc)) (hn:n=xs.length):∃ a c,v=.slice a xs.length c/\FA enc size w a c xs/\(∀ g,a=A3 g->B<=g.block):=by
 obtain⟨a,c,rfl,hc,hm,hx⟩:=own_any hs h hn
 have hB:∀ g,a=A3 g->B<=g.block:=by
  intro g hg;subst hg;rcases h.2 with⟨h7,_⟩ | ⟨g7,_,_,h7,h8,_⟩
  ·cases h7
  ·cases h7;exact h8
 refine⟨a,c,rfl,⟨hc,hm,?_⟩,hB⟩;rcases hx with rfl | ⟨g,rfl,_,hg,hat⟩
 ·exact⟨0,0,fun h9=>absurd rfl h9,fun j i x u hj=>by simp at hj⟩
 ·refine⟨g,0,fun _=>⟨rfl,hg⟩,fun j i x u hj hu=>?_⟩;rw[Ct];exact hat j i x u hj QW hu
theorem choose_list {α β:Type}:∀ (l:List α) (P:Nat->α × β->Prop),(∀ j x,l[j]?=A3 x->∃ y,P j (x,y))->∃ T:List (α × β),T.map (·.1)=l/\∀ j t,T[j]?=A3 t->P j t
 | [],_,_=>⟨[],rfl,fun j t h=>by simp at h⟩
 | x::l,P,h=>by
  obtain⟨y,hy⟩:=h 0 x rfl;obtain⟨T,h1,h2⟩:=choose_list l (fun j=>P (j+1)) (fun j z hz=>h (j+1) z uQ);refine⟨(x,y)::T,by simp[h1],fun j t ht=>?_⟩;cases j with
  | zero=>simp at ht;subst ht;exact hy
  | succ j=>exact h2 j t (by simpa using ht)
theorem flat_one (h:∀ x,∀ u∈enc x,u.oneCell'=true) (xs:List α):∀ u∈xs.flatMap enc,u.oneCell'=true:=fun u hu=>by
 obtain⟨x,_,h2⟩:=List.mem_flatMap.1 hu;exact h x u h2
end Br
namespace Rc
open Go.Lib
abbrev encS (x:UInt8 × ByteArray):List Ak:=[.int .u8 x.1.toNat,.string x.2]
theorem encS_len (x:UInt8 × ByteArray):(encS x).length=2:=rfl
theorem SubA.of_fa {w:Ab}{a:Option Aq}{c:Nat}{xs:List (UInt8 × ByteArray)} (h:Br.FA encS 2 w a c xs):SubA w a c xs:=by
 obtain⟨b,o,h1,h2⟩:=h.at_;exact⟨h.cap,h.max,b,o,h1,fun j x hx=>⟨h2 j 0 x _ hx rfl,h2 j 1 x _ hx rfl⟩⟩
abbrev FT:=Fl × Option Aq × Nat
abbrev encF (t:FT):List Ak:=[.string t.1.tag,.string t.1.ind,.slice t.2.1 t.1.subs.length t.2.2,.int .i64 t.1.auth]
theorem encF_len (t:FT):(encF t).length=4:=rfl
theorem f_new (w:Ab) (g:Nat) (hg:g=w.heap.size) (f:Fl) (sa:Option Aq) (sc:Nat) (t:Bo):∀ j u,(encF (f,sa,sc))[j]?=A3 u->(w.alloc (.cells #[.string f.tag,.string f.ind,.slice sa f.subs.length sc,.int .i64 f.auth] t)).cell? ((⟨g,0,A0⟩:Aq).add j)=A3 u :=
 AD w g hg _ t
theorem f_one (t:FT):∀ u∈encF t,u.oneCell'=true:=by simp[encF,Value.oneCell']
theorem v3y (h:P:=by
 obtain⟨b,o,h1,h2⟩:=h.at_;refine⟨by rw[Ax];exact h.cap,h.max,b,o,fun h9=>h1 (fun h8=>h9 (by rw[h8];rfl)),fun j f hj=>?_⟩;rw[List.getElem?_map]at hj;obtain⟨x,hx,rfl⟩:=zqs
 first
  |exact⟨h2 j 0 x _ hx rfl,h2 j 1 x _ hx rfl,h2 j 2 x _ hx rfl,h2 j 3 x _ hx rfl,x.2.1,x.2.2,h2 j 4 x _ hx rfl,hs x (AJ hx)⟩
  |exact⟨h2 j 0 x _ hx rfl,h2 j 1 x _ hx rfl,⟨x.2.1,x.2.2,h2 j 2 x _ hx rfl,hs x (AJ hx)⟩,h2 j 3 x _ hx rfl⟩):P:=h
theorem FldA.of_fa {w:Ab}{a:Option Aq}{c:Nat}{T:List FT} (h:Br.FA encF 4 w a c T) (hs:∀ t∈T,SubA w t.2.1 t.2.2 t.1.subs):FldA w a c (T.map (·.1)):=by
 exact v3y
theorem FldA.of_own {w:Ab}{B e n:Nat}{v:Ak}{T:List FT} (h:w.ownsRow B e 4 v n (T.flatMap encF)) (hn:n=T.length) (hs:∀ t∈T,SubA w t.2.1 t.2.2 t.1.subs):∃ a c,v=.slice a (T.map (·.1)).length c/\FldA w a c (T.map (·.1)):=by
 obtain⟨a,c,e1,h1,_⟩:=Br.FA.of_own encF_len h hn;exact⟨a,c,by rw[Ax];exact e1,.of_fa h1 hs⟩
abbrev RT:=Rd × Option Aq × Nat
abbrev encR (t:RT):List Ak:=[.int .i64 t.1.id,.int .i64 t.1.ver,.int .i64 t.1.kind,.string t.1.lang,.slice t.2.1 t.1.fields.length t.2.2]
theorem encR_len (t:RT):(encR t).length=5:=rfl
theorem r_one (t:RT):∀ u∈encR t,u.oneCell'=true:=by simp[encR,Value.oneCell']
structure RdA (w:Ab) (a:Option Aq) (c:Nat) (rs:List Rd):Prop where
 cap:rs.length<=c
 max:c<=Ap
 at_:∃ b o,(rs≠[]->a=A3 ⟨b,o,A0⟩/\b<w.heap.size)/\∀ (j:Nat) r,rs[j]?=A3 r->w.cell? ⟨b,o+j*5,A0⟩=A3 (.int .i64 r.id)/\w.cell? ⟨b,o+j*5+1,A0⟩=A3 (.int .i64 r.ver)/\w.cell? ⟨b,o+j*5+2,A0⟩=A3 (.int .i64 r.kind)/\w.cell? ⟨b,o+j*5+3,A0⟩=A3 (.string r.lang) /\
  ∃ fa fc,w.cell? ⟨b,o+j*5+4,A0⟩=A3 (.slice fa r.fields.length fc)/\FldA w fa fc r.fields
theorem RdA.below {w w':Ab}{a:Option Aq}{c:Nat}{rs:List Rd} (h:RdA w a c rs) (hb:Aa w.heap.size w w'):RdA w' a c rs:=by
 obtain⟨b,o,h1,h2⟩:=h.at_;refine⟨h.cap,h.max,b,o,fun hn=>⟨(h1 hn).1,AN (h1 hn).2 hb.size⟩,fun j x hx=>?_⟩;obtain⟨c0,c1,c2,c3,fa,fc,c4,hf⟩:=h2 j x hx;exact⟨A4 hb c0,A4 hb c1,A4 hb c2,A4 hb c3,fa,fc,A4 hb c4,hf.below hb⟩
theorem RdA.get {w:Ab}{a:Option Aq}{c:Nat}{rs:List Rd} (h:RdA w a c rs) {k:Nat}{r:Rd} (hk:rs[k]?=A3 r) :
  ∃ b o fa fc,a=A3 ⟨b,o,A0⟩/\b<w.heap.size/\w.cell? ⟨b,o+k*5,A0⟩=A3 (.int .i64 r.id)/\w.cell? ⟨b,o+k*5+1,A0⟩=A3 (.int .i64 r.ver)/\w.cell? ⟨b,o+k*5+2,A0⟩=A3 (.int .i64 r.kind)/\w.cell? ⟨b,o+k*5+3,A0⟩=A3 (.string r.lang) /\
   w.cell? ⟨b,o+k*5+4,A0⟩=A3 (.slice fa r.fields.length fc)/\FldA w fa fc r.fields:=by
 obtain⟨b,o,h1,h2⟩:=h.at_;have hne:rs≠[]:=by intro h0;subst h0;simp at hk
 obtain⟨c0,c1,c2,c3,fa,fc,c4,hf⟩:=h2 k r hk;exact⟨b,o,fa,fc,(h1 hne).1,(h1 hne).2,c0,c1,c2,c3,c4,hf⟩
theorem RdA.of_fa {w:Ab}{a:Option Aq}{c:Nat}{T:List RT} (h:Br.FA encR 5 w a c T) (hs:∀ t∈T,FldA w t.2.1 t.2.2 t.1.fields):RdA w a c (T.map (·.1)):=by
 exact v3y
end Rc
theorem info_fld:(A8.info? 84).map (fun i=>(i.zero,i.size,i.bytes))=A3 (A3 (.agg #[.string ⟨#[]⟩,.string ⟨#[]⟩,.slice A0 0 0,.int .i64 0]),4,64):=by kernel_rfl
namespace Qr
structure Fr (g:Nat) (w w':Ab):Prop where
 os:w'.os=w.os
 tape:w'.tape=w.tape
 output:w'.output=w.output
 size:w.heap.size<=w'.heap.size
 block:∀ k,k≠g->k<w.heap.size->w'.heap[k]?=w.heap[k]?
theorem Fr.refl (g:Nat) (w:Ab):Fr g w w:=⟨rfl,rfl,rfl,Ad _,fun _ _ _=>rfl⟩
theorem Fr.trans {g:Nat}{a b c:Ab} (h:Fr g a b) (k:Fr g b c):Fr g a c :=
 ⟨k.os.trans h.os,k.tape.trans h.tape,k.output.trans h.output,Au h.size k.size,fun i hi hl=>(k.block i hi (AN hl h.size)).trans (h.block i hi hl)⟩
theorem Fr.of_below {g:Nat}{w w':Ab} (h:Aa w.heap.size w w'):Fr g w w':=⟨h.os,h.tape,h.output,h.size,fun k _ hl=>h.block k hl⟩
theorem Fr.drew {g:Nat}{a w:Ab} (h:Fr g a w):Fr g a w.drew:=⟨h.os,h.tape,h.output,h.size,h.block⟩
theorem Fr.alloc {g:Nat}{a w:Ab} (h:Fr g a w) (o:Obj):Fr g a (w.alloc o):=h.trans (.of_below ((Ah _ _).alloc (Ad _) _))
theorem Fr.set {g:Nat}{a w:Ab} (h:Fr g a w) {p:Aq} (hp:p.block=g) (u:Ak):Fr g a (w.setCell p u) :=
 h.trans ⟨rfl,rfl,rfl,by simp[World.setCell],fun k hk _=>D4 _ _ _ _ (by rw[hp];exact hk)⟩
theorem Fr.set1 {g:Nat}{a w:Ab} (h:Fr g a w) (u:Ak):Fr g a (w.setCell ⟨g,1,A0⟩ u):=h.set rfl u
theorem Fr.setNew {g:Nat}{a w:Ab} (h:Fr g a w) {p:Aq} (hp:a.heap.size<=p.block) (u:Ak):Fr g a (w.setCell p u) :=
 ⟨h.os,h.tape,h.output,Au h.size eX,fun k hk hl=>(D4 _ _ _ _ oQ).trans (h.block k hk hl)⟩
theorem Fr.grown {g:Nat}{a w w':Ab}{row:Option Nat} (h:Fr g a w) (hg:w.grownBy w' row) (hr:∀ k,row=A3 k->a.heap.size<=k):Fr g a w' :=
 ⟨hg.os.trans h.os,hg.tape.trans h.tape,hg.output.trans h.output,Au h.size hg.size,fun k hk hl=>(hg.block k (AN hl h.size) (fun e=>by have:=hr k e.symm;omega)).trans (h.block k hk hl)⟩
theorem Fr.below {g B:Nat}{w w':Ab} (h:Fr g w w') (hB:B<=g) (hg:g<w.heap.size):Aa B w w' :=
 ⟨h.os,h.tape,h.output,h.size,fun k hk=>h.block k oQ oQ⟩
theorem Fr.cell {g:Nat}{w w':Ab} (h:Fr g w w') {b o:Nat}{v:Ak} (hb:b≠g) (hc:w.cell? ⟨b,o,A0⟩=A3 v):w'.cell? ⟨b,o,A0⟩=A3 v :=
 (World.cell?_of_block (w:=w) (h.block b hb (Rc.cell_lt hc))).trans hc
theorem Fr.own {g B:Nat}{w w':Ab}{e size n:Nat}{v:Ak}{xs:List Ak} (h:Fr g w w') (ho:w.ownsRow B e size v n xs) (hB:g<B):w'.ownsRow B e size v n xs:=by
 refine⟨ho.1,?_⟩;rcases ho.2 with h1 | ⟨k,cap,cur,h1,h2,h3,h4⟩
 ·exact .inl h1
 ·exact .inr ⟨k,cap,cur,h1,h2,(h.block k oQ (Array.getElem?_eq_some_iff.1 h3).1).trans h3,h4⟩
theorem Fr.fa {α:Type}{enc:α->List Ak}{size:Nat}{g:Nat}{w w':Ab}{a:Option Aq}{c:Nat}{xs:List α} (h:Fr g w w') (hf:Br.FA enc size w a c xs) (hb:xs≠[]->∀ ad,a=A3 ad->g+1<=ad.block):Br.FA enc size w' a c xs:=by
 obtain⟨b,o,h1,h2⟩:=hf.at_;by_cases hne:xs=[]
 ·subst hne;exact⟨hf.cap,hf.max,b,o,fun h9=>absurd rfl h9,fun j i x u hx=>by simp at hx⟩
 ·have h3:=hb hne _ (h1 hne).1;refine⟨hf.cap,hf.max,b,o,fun hn=>⟨(h1 hn).1,AN (h1 hn).2 h.size⟩,fun j i x u hx hu=>h.cell (show b≠g by simp only at h3;omega) (h2 j i x u hx hu)⟩
def LowS (B:Nat) (v:Ak) (xs:List ByteArray):Prop:=xs≠[]->∀ ad l c,v=.slice (A3 ad) l c->B<=ad.block
theorem Fr.sl {g:Nat}{w w':Ab}{v:Ak}{xs:List ByteArray} (h:Fr g w w') (hs:SL w v xs) (hb:LowS (g+1) v xs):SL w' v xs:=by
 rcases hs with h1 | ⟨b,o,c,h1,h2,h3,h4,h5⟩
 ·exact .inl h1
 ·by_cases hne:xs=[]
  ·exact .inl ⟨hne,_,_,by rw[h1,hne];rfl⟩
  ·have:=hb hne _ _ _ h1;exact .inr ⟨b,o,c,h1,h2,h3,AN h4 h.size,fun j x hx=>h.cell (show b≠g by simp only at this;omega) (h5 j x hx)⟩
inductive QC (B:Nat) (w:Ab):Qy->List Ak->Prop
 | mk {op f a b:Int}{ws:List ByteArray}{ks:List Qy}{sa:Option Aq}{sc:Nat}{ka:Option Aq}{kc:Nat}{css:List (List Ak)}
   (hw:SL w (.slice sa ws.length sc) ws) (hwb:LowS B (.slice sa ws.length sc) ws) (hl:css.length=ks.length)
   (hk:∀ (j:Nat) k cs,ks[j]?=A3 k->css[j]?=A3 cs->QC B w k cs)
   (hf:Br.FA id 6 w ka kc css) (hfb:css≠[]->∀ ad,ka=A3 ad->B<=ad.block) :
   QC B w (.mk op f ws a b ks) [.int .i64 op,.int .i64 f,.slice sa ws.length sc,.int .i64 a,.int .i64 b,.slice ka ks.length kc]
theorem QC.fr {g B:Nat}{w w':Ab}{q:Qy}{cs:List Ak} (h:QC B w q cs) (hF:Fr g w w') (hB:g<B):QC B w' q cs:=by
 induction h with
 | mk hw hwb hl _ hf hfb ih =>
  exact .mk (hF.sl hw fun h1 ad l c h2=>Au oQ (hwb h1 ad l c h2)) hwb hl (fun j k cs h1 h2=>ih j k cs h1 h2) (hF.fa hf fun h1 ad h2=>Au oQ (hfb h1 ad h2)) hfb
theorem QC.later {B:Nat}{w w':Ab}{q:Qy}{cs:List Ak} (h:QC B w q cs) (hb:Aa w.heap.size w w'):QC B w' q cs:=by
 induction h with
 | mk hw hwb hl _ hf hfb ih=>exact .mk (hw.below hb) hwb hl (fun j k cs h1 h2=>ih j k cs h1 h2) (hf.below hb) hfb
theorem QC.mono {B B':Nat}{w:Ab}{q:Qy}{cs:List Ak} (h:QC B w q cs) (hB:B'<=B):QC B' w q cs:=by
 induction h with
 | mk hw hwb hl _ hf hfb ih=>exact .mk hw (fun h1 ad l c h2=>Au hB (hwb h1 ad l c h2)) hl (fun j k cs h1 h2=>ih j k cs h1 h2) hf (fun h1 ad h2=>Au hB (hfb h1 ad h2))
structure KA (B:Nat) (w:Ab) (a:Option Aq) (c:Nat) (ks:List Qy):Prop where
 ex:∃ css:List (List Ak),css.length=ks.length/\(∀ (j:Nat) k cs,ks[j]?=A3 k->css[j]?=A3 cs->QC B w k cs)/\Br.FA id 6 w a c css/\(css≠[]->∀ ad,a=A3 ad->B<=ad.block)
theorem QC.kids {B:Nat}{w:Ab}{q:Qy}{cs:List Ak} (h:QC B w q cs):∃ sa sc ka kc,cs=[.int .i64 q.op,.int .i64 q.fld,.slice sa q.ws.length sc,.int .i64 q.a,.int .i64 q.b,.slice ka q.ks.length kc]/\SL w (.slice sa q.ws.length sc) q.ws/\LowS B (.slice sa q.ws.length sc) q.ws/\KA B w ka kc q.ks:=by
 cases h with
 | mk hw hwb hl hk hf hfb=>exact⟨_,_,_,_,rfl,hw,hwb,⟨_,hl,hk,hf,hfb⟩⟩
theorem QC.of_kids {B:Nat}{w:Ab}{op f a b:Int}{ws:List ByteArray}{ks:List Qy}{sa:Option Aq}{sc:Nat}{ka:Option Aq}{kc:Nat} (hw:SL w (.slice sa ws.length sc) ws) (hwb:LowS B (.slice sa ws.length sc) ws) (hk:KA B w ka kc ks) :
  QC B w (.mk op f ws a b ks) [.int .i64 op,.int .i64 f,.slice sa ws.length sc,.int .i64 a,.int .i64 b,.slice ka ks.length kc]:=by
 obtain⟨css,h1,h2,h3,h4⟩:=hk.ex;exact .mk hw hwb h1 h2 h3 h4
theorem KA.below {B:Nat}{w w':Ab}{a:Option Aq}{c:Nat}{ks:List Qy} (h:KA B w a c ks) (hb:Aa w.heap.size w w'):KA B w' a c ks:=by
 obtain⟨css,h1,h2,h3,h4⟩:=h.ex;exact⟨css,h1,fun j k cs a b=>(h2 j k cs a b).later hb,h3.below hb,h4⟩
theorem KA.fr {g B:Nat}{w w':Ab}{a:Option Aq}{c:Nat}{ks:List Qy} (h:KA B w a c ks) (hF:Fr g w w') (hB:g<B):KA B w' a c ks:=by
 obtain⟨css,h1,h2,h3,h4⟩:=h.ex;exact⟨css,h1,fun j k cs a b=>(h2 j k cs a b).fr hF hB,hF.fa h3 (fun x ad y=>Au oQ (h4 x ad y)),h4⟩
theorem KA.max {B:Nat}{w:Ab}{a:Option Aq}{c:Nat}{ks:List Qy} (h:KA B w a c ks):ks.length<=Ap:=by
 obtain⟨css,h1,_,h3,_⟩:=h.ex;rw[<- h1];exact Au h3.cap h3.max
theorem KA.get {B:Nat}{w:Ab}{a:Option Aq}{c:Nat}{ks:List Qy} (h:KA B w a c ks) {k:Nat}{q:Qy} (hk:ks[k]?=A3 q) :
  ∃ b o sa sc ka kc,a=A3 ⟨b,o,A0⟩/\b<w.heap.size/\w.cell? ⟨b,o+k*6,A0⟩=A3 (.int .i64 q.op)/\w.cell? ⟨b,o+k*6+1,A0⟩=A3 (.int .i64 q.fld)/\w.cell? ⟨b,o+k*6+2,A0⟩=A3 (.slice sa q.ws.length sc)/\w.cell? ⟨b,o+k*6+3,A0⟩=A3 (.int .i64 q.a)/\w.cell? ⟨b,o+k*6+4,A0⟩=A3 (.int .i64 q.b)/\w.cell? ⟨b,o+k*6+5,A0⟩=A3 (.slice ka q.ks.length kc) /\
   QC B w q [.int .i64 q.op,.int .i64 q.fld,.slice sa q.ws.length sc,.int .i64 q.a,.int .i64 q.b,.slice ka q.ks.length kc]:=by
 obtain⟨css,h1,h2,h3,_⟩:=h.ex;have hkl:k<css.length:=by rw[h1];exact (Av.1 hk).1
 have hc:css[k]?=A3 css[k]:=Ai hkl;have hq:=h2 k q _ hk hc;obtain⟨sa,sc,ka,kc,e,_,_,_⟩:=hq.kids;obtain⟨b,o,ha,hb,hat⟩:=h3.get hc;rw[e]at hat hq;exact⟨b,o,sa,sc,ka,kc,ha,hb,hat 0 _ rfl,hat 1 _ rfl,hat 2 _ rfl,hat 3 _ rfl,hat 4 _ rfl,hat 5 _ rfl,hq⟩
end Qr
theorem info_qy:(A8.info? 29).map (fun i=>(i.zero,i.size,i.bytes))=A3 (A3 (.agg #[.int .i64 0,.int .i64 0,.slice A0 0 0,.int .i64 0,.int .i64 0,.slice A0 0 0]),6,80):=by kernel_rfl
theorem y7w (h:P:=by
 have HT2:=HT.out;go_roundw
 case rel=>exact⟨k+1,hlt,by go_num,Tx.vint zry,hb.trans (((Tx.newb _ _).trans (hb1.mono oZ)).mono hb.size)⟩
 case measure=>simp[intOf];omega):P:=h
theorem yt2 (h:P:=by
 go_wp2;go_ret;have hkk:=zlw;subst hkk;exact⟨Tx.ret1 (by first | (rw[At];done) | (rw[At];unfold wrap64;omega)),hB.trans (hb.mono hB.size)⟩):P:=h
theorem vu8 (h:P:=by
 obtain⟨x,hx⟩:=zdq;obtain⟨b,o,sa2,sc2,ka2,kc2,rfl,hbl,d0,d1,d2,d3,d4,d5,hq⟩:=(hS.below hb).get hx;have hmem:=zgk;have hxn:=Qr.nodes_kid hmem;have htk:=zrp
 first
  |have hT:Jd (ks.take (k+1))=max (Jd (ks.take k)) (Qr.depth x):=by rw[htk,Qr.depthL_app];simp[Jd]
   have hle:Jd (ks.take (k+1))<=Jd ks:=by
    have:=Qr.depthL_app (ks.take (k+1)) (ks.drop (k+1));rw[BY]at this;omega
   have HT:=J hT;clear hT;have HM:=J hmem;clear hmem;have HQ:=J hq;clear hq;clear htk hx
   first
    |go_wp2_with (go_at_call 77;refine (IH.out x HM.out _ _ HQ.out oQ).mono ?_;rintro e w1 ⟨rfl,hb1⟩)
     have HT2:=HT.out;go_roundw
     case rel=>exact⟨k+1,hlt,by go_num,Tx.vint zry,hb.trans (hb1.mono hb.size)⟩
     case measure=>simp[intOf];omega
    |go_wp2_with (go_at_call 199;refine (IH.out x HM.out _ _ (HQ.out.later (Tx.newb _ _)) oQ).mono ?_;rintro e w1 ⟨rfl,hb1⟩)
     exact y7w
  |have hT:CO (ks.take (k+1))=CO (ks.take k)+Eb x:=by rw[htk,FJ];simp[CO]
   have hle:CO (ks.take (k+1))<=CO ks:=by
    have:=FJ (ks.take (k+1)) (ks.drop (k+1));rw[BY]at this;omega
   have HT:=J hT;clear hT;have HM:=J hmem;clear hmem;have HQ:=J hq;clear hq;clear htk hx;go_wp2_with (go_at_call 198;refine (IH.out x HM.out _ _ (HQ.out.later (Tx.newb _ _)) oQ).mono ?_;rintro e w1 ⟨rfl,hb1⟩);exact y7w):P:=h
theorem vfl (h:P:=by
 exact vu8):P:=h
theorem vaw (h:P:=by
 obtain⟨sa,sc,ka,kc,rfl,_,_,hK⟩:=h.kids;dsimp only[Qr.Qy.op,Qr.Qy.fld,Qr.Qy.a,Qr.Qy.b,Qr.Qy.ks,Qr.Qy.ws]at hK ⊢;have IH:=J ih;clear ih;obtain⟨W,hW,hB,c0,c1,c2,c3,c4,c5⟩:=zdu;have hS:=hK.below hB;have hmax:=hK.max;have hmx:Ap=9223372036854775807:=rfl
 first
  |unfold Eb
   go_enter Tryz.func75,Tryz.ntmps75;go_wp2;clear hW c0 c1 c2 c3 c4;go_loopw [5,6] (fun n i wr=>∃ k m:Nat,k<=ks.length/\i=.int .i64 k/\n=.int .i64 (m:Int)/\Hid (m=min (1+CO (ks.take k)) (L+1))/\m<=L+1/\Aa W.heap.size W wr) (fun _ i _=>ks.length - (intOf i).toNat)
   case atStart=>exact⟨0,1,Am _,rfl,rfl,J (by simp only[List.take_zero,CO];omega),oQ,Ah _ _⟩
   case round =>
    obtain⟨k,m,hk,rfl,rfl,hm,hmL,hb⟩:=hrel;have e5:=zqu;by_cases hlt:k<ks.length
    ·obtain⟨x,hx⟩:=zdq;have htk:=zrp;have hT:CO (ks.take (k+1))=CO (ks.take k)+Eb x:=by rw[htk,FJ];simp[CO]
     have hle:CO (ks.take k)<=CO ks:=by
      have:=FJ (ks.take k) (ks.drop k);rw[BY]at this;omega
     by_cases hmm:m<=L
     ·obtain⟨b,o,sa2,sc2,ka2,kc2,rfl,hbl,d0,d1,d2,d3,d4,d5,hq⟩:=(hS.below hb).get hx;have hmem:=zgk;have HT:=J hT;clear hT;have HM:=J hmem;clear hmem;have HQ:=J hq;clear hq;have HL:=J hle;clear hle;clear htk hx;have hw:=IntWalk.i64_in ((L:Int) - (m:Int)) ⟨oQ,oQ⟩;have hc:((L:Int) - (m:Int))=((L - m:Nat):Int):=oQ;have HC:=J hc;clear hc;go_wp2_with (go_at_call 75;rw[HC.out];refine (IH.out x HM.out _ (L - m) _ HQ.out oQ).mono ?_;rintro e w1 ⟨rfl,hb1⟩)
      have hm2:m+min (Eb x) (L - m+1)=min (1+CO (ks.take (k+1))) (L+1):=by
       have:=hm.out;have:=HT.out;omega
      go_roundw
      case rel=>exact⟨k+1,m+min (Eb x) (L - m+1),hlt,by go_num,Tx.vint (by first | go_num | (unfold wrap64;omega)),J hm2,oQ,hb.trans (hb1.mono hb.size)⟩
      case measure=>simp[intOf];omega
     ·have hmm2:¬ ((m:Int)<=L):=oQ;have HL:=J hle;clear hle;have HT:=J hT;clear hT;clear htk hx;go_wp2;go_ret;exact⟨Tx.ret1 (by have:=hm.out;have:=HL.out;omega),hB.trans (hb.mono hB.size)⟩
    ·go_wp2;go_ret;have hkk:=zlw;subst hkk;exact⟨Tx.ret1 (by have:=hm.out;rw[At]at this;omega),hB.trans (hb.mono hB.size)⟩
  |have hdn:=Qr.depth_nodes (.mk op fl ws ya yb ks)
   unfold Eb at hn hdn;unfold Qr.depth at hdn ⊢;go_enter Tryz.func77,Tryz.ntmps77;go_wp2;clear hW c0 c1 c2 c3 c4;go_loopw [3,4] (fun n i wr=>∃ k:Nat,k<=ks.length/\i=.int .i64 k/\n=.int .i64 ((Jd (ks.take k):Nat):Int)/\Aa W.heap.size W wr) (fun _ i _=>ks.length - (intOf i).toNat)
   case atStart=>exact⟨0,Am _,rfl,rfl,Ah _ _⟩
   case round =>
    obtain⟨k,hk,rfl,rfl,hb⟩:=hrel;have e5:=zqu;by_cases hlt:k<ks.length
    ·exact vfl
    ·exact yt2
  |have hkn:=Qr.ks_nodes ks
   have hdn:=Qr.depth_nodes (.mk op fl ws ya yb ks);unfold Eb at hn hdn;unfold Qr.depth at hdn ⊢;go_enter Tryz.func199,Tryz.ntmps199;go_wp2;clear hW c0 c1 c2 c3 c4 c5;go_loopw [3,9] (fun n i wr=>∃ k:Nat,k<=ks.length/\i=.int .i64 k/\n=.int .i64 ((Jd (ks.take k):Nat):Int)/\Aa W.heap.size W wr) (fun _ i _=>ks.length - (intOf i).toNat)
   case atStart=>exact⟨0,Am _,rfl,rfl,Ah _ _⟩
   case round =>
    obtain⟨k,hk,rfl,rfl,hb⟩:=hrel;by_cases hlt:k<ks.length
    ·exact vfl
    ·exact yt2
  |have hkn:=Qr.ks_nodes ks
   unfold Eb at hn ⊢;go_enter Tryz.func198,Tryz.ntmps198;go_wp2;clear hW c0 c1 c2 c3 c4 c5;go_loopw [3,9] (fun n i wr=>∃ k:Nat,k<=ks.length/\i=.int .i64 k/\n=.int .i64 ((1+CO (ks.take k):Nat):Int)/\Aa W.heap.size W wr) (fun _ i _=>ks.length - (intOf i).toNat)
   case atStart=>exact⟨0,Am _,rfl,rfl,Ah _ _⟩
   case round =>
    obtain⟨k,hk,rfl,rfl,hb⟩:=hrel;by_cases hlt:k<ks.length
    ·exact vu8
    ·exact yt2):P:=h
theorem nodes_c (B:Nat):∀ (q:Qr.Qy) (cs:List Ak) (w:Ab),Qr.QC B w q cs->Eb q<=1000000000 ->
  Calls A8 198 #[.agg cs.toArray] w fun e w'=>e=.returned (.int .i64 (Eb q))/\Aa w.heap.size w w':=by
 refine Qr.Qy.ind ?_;intro op fl ws ya yb ks ih cs w h hn;exact vaw
theorem Depth_c (B:Nat):∀ (q:Qr.Qy) (cs:List Ak) (w:Ab),Qr.QC B w q cs->Eb q<=1000000000 ->
  Calls A8 199 #[.agg cs.toArray] w fun e w'=>e=.returned (.int .i64 (Qr.depth q))/\Aa w.heap.size w w':=by
 refine Qr.Qy.ind ?_;intro op fl ws ya yb ks ih cs w h hn;exact vaw
theorem r21_Nodes_c (B:Nat):∀ (q:Qr.Qy) (cs:List Ak) (L:Nat) (w:Ab),Qr.QC B w q cs->L<=1000000000 ->
  Calls A8 75 #[.agg cs.toArray,.int .i64 L] w fun e w'=>e=.returned (.int .i64 ((min (Eb q) (L+1):Nat):Int))/\Aa w.heap.size w w':=by
 refine Qr.Qy.ind ?_;intro op fl ws ya yb ks ih cs L w h hn;exact vaw
theorem r21_Depth_c (B:Nat):∀ (q:Qr.Qy) (cs:List Ak) (w:Ab),Qr.QC B w q cs->Eb q<=1000000000 ->
  Calls A8 77 #[.agg cs.toArray] w fun e w'=>e=.returned (.int .i64 (Qr.depth q))/\Aa w.heap.size w w':=by
 refine Qr.Qy.ind ?_;intro op fl ws ya yb ks ih cs w h hn;exact vaw
namespace Br
section
variable {α : Type} {enc : α -> List Ak} {size : Nat}
theorem FA.cellsT (hs:∀ x,(enc x).length=size) (h0:0<size) {w w':Ab}{b o c:Nat}{xs:List α} (h:FA enc size w (A3 ⟨b,o,A0⟩) c xs) (hb:Aa w.heap.size w w') (k:Nat):∀ j u,((xs.take k).flatMap enc)[j]?=A3 u->w'.cell? ((⟨b,o,A0⟩:Aq).add j)=A3 u:=by
 intro j u hj;refine (h.below hb).cells hs h0 _ rfl j u ?_;have e:=zen;rw[e,List.getElem?_append_left (Av.1 hj).1];exact hj
theorem FA.cellsD (hs:∀ x,(enc x).length=size) (h0:0<size) {w w':Ab}{b o c:Nat}{xs:List α} (h:FA enc size w (A3 ⟨b,o,A0⟩) c xs) (hb:Aa w.heap.size w w') (k:Nat) (hk:k<=xs.length) (p:Nat) (hp:p=o+k*size):∀ j u,((xs.drop k).flatMap enc)[j]?=A3 u->w'.cell? ((⟨b,p,A0⟩:Aq).add j)=A3 u:=by
 intro j u hj;have e:=zen;have hl:((xs.take k).flatMap enc).length=k*size:=by rw[flat_len enc size hs,List.length_take,Nat.min_eq_left hk]
 have h9:=(h.below hb).cells hs h0 _ rfl (k*size+j) u (by rw[e,List.getElem?_append_right oQ,hl,Nat.add_sub_cancel_left];exact hj);rw[Cs.add_at]at h9 ⊢;rw[hp,Ju];exact h9
end
end Br
namespace Sq
def OwnZ (w:Ab) (B e size:Nat) (v:Ak) (n:Nat) (xs:List Ak):Prop :=
 (n=0/\xs=[]/\∃ X,v=.slice (A3 ⟨X,0,A0⟩) 0 0)\/(w.ownsRow B e size v n xs/\v≠.slice A0 0 0)
theorem OwnZ.lit (w:Ab) (B e size X:Nat):OwnZ w B e size (.slice (A3 ⟨X,0,A0⟩) 0 0) 0 []:=.inl ⟨rfl,rfl,X,rfl⟩
theorem OwnZ.alloc {w:Ab}{B e size:Nat}{v:Ak}{n:Nat}{xs:List Ak} (h:OwnZ w B e size v n xs) (o:Obj):OwnZ (w.alloc o) B e size v n xs:=by
 rcases h with h | ⟨h1,h2⟩
 ·exact .inl h
 ·exact .inr ⟨h1.alloc o,h2⟩
theorem OwnZ.fa {α:Type}{enc:α->List Ak}{size:Nat} (hs:∀ x,(enc x).length=size) {w:Ab}{B e n:Nat}{v:Ak}{xs:List α} (h:OwnZ w B e size v n (xs.flatMap enc)) (hn:n=xs.length):∃ b o c,v=.slice (A3 ⟨b,o,A0⟩) xs.length c/\Br.FA enc size w (A3 ⟨b,o,A0⟩) c xs:=by
 rcases h with⟨h1,h2,X,rfl⟩ | ⟨h1,h2⟩
 ·have hx:xs=[]:=List.eq_nil_of_length_eq_zero oQ;subst hx;exact⟨X,0,0,rfl,Ad _,Am _,X,0,fun h9=>absurd rfl h9,fun j i x u hx=>by simp at hx⟩
 ·obtain⟨a,c,e1,e2,_⟩:=Br.FA.of_own hs h1 hn;subst e1;rcases h1.2 with⟨h9,_⟩ | ⟨g,cap,cur,h9,_⟩
  ·exact absurd h9 h2
  ·injection h9 with h9 h10 h11;subst h9;exact⟨g,0,c,rfl,e2⟩
section
variable {P : Program} (w : Ab)
theorem run_append_lit (base:Nat) (t ty e:Bo) (i:TypeInfo) (z:Ak) (size bytes:Nat) (ht:P.underlying t=A3 (.slice e)) (hi:P.info? e=A3 i) (hz:i.zero=A3 z)
  (hsize:i.size=size) (hby:i.bytes=bytes) (hzs:z.cells.size=size) (hsz:0<size) (X:Nat)
  (a:Aq) (m c:Nat) (news:List Ak) (hl:news.length=m*size) (hnews:∀ j u,news[j]?=A3 u->w.cell? (a.add j)=A3 u)
  (h63:m<=Ap) (hbytes:m*bytes<=140737488355328) (hbase:base<=w.heap.size) :
  ∃ v' w',(Builtin.append_ #[t,t] ty #[.slice (A3 ⟨X,0,A0⟩) 0 0,.slice (A3 a) m c]).run P w=.ok v' w'/\OwnZ w' base e size v' m news/\w.grownBy w' A0:=by
 subst hsize;subst hby;by_cases hm:m=0
 ·subst hm;have hn:=zew;subst hn;have hr:=run_append_room_cells (P:=P) w t ty e i ht hi X 0 0 0 a 0 c [] hl hnews (fun u hu=>by cases hu) (Ad _) (fun j hj=>by cases hj) (fun j hj=>by cases hj);refine⟨_,_,hr,.inl ⟨rfl,rfl,X,rfl⟩,?_⟩;exact⟨rfl,rfl,rfl,Ad _,fun _ _ _=>rfl⟩
 ·have hsmall:m<=9223372036854775807:=by simp only[Ap]at h63;omega
  have hr:=run_append_grow (P:=P) w t ty e i z ht hi hz ⟨X,0,A0⟩ 0 0 [] oZ (fun j u h=>by simp at h) a m c news hl hnews oQ oQ (growslice_fits oQ (by rw[Ct];exact hbytes));have hge:=grownCap_ge w (0+m) 0 e;have hcm:grownCap w (0+m) 0 e<=Ap:=grownCap_le_maxLen w (0+m) 0 e (by rw[Ct];exact h63);generalize grownCap w (0+m) 0 e=C at hr hge hcm;rw[Ct]at hr hge;refine⟨_,_,hr,.inr ⟨⟨hl,.inr ⟨w.heap.size,_,_,rfl,hbase,heap_alloc_new w.drew _,oQ,hcm,?_,?_⟩⟩,oZ⟩,⟨rfl,rfl,rfl,oZ,fun k hk _=>heap_alloc_old w.drew _ hk⟩⟩
  ·simp only[Array.size_append,List.size_toArray,size_zeroCells,hzs,hl,List.length_nil,Ct,<- Nat.add_mul];congr 1;omega
  ·simp only[Array.toList_append,List.append_assoc];rw[<- hl];exact List.take_left
theorem step_append_z {ops:Array Oper}{o:Oper}{a:Act}{K:Act->Ab->Prop}{Q:Exit->Act->Ab->Prop}{E:Prop} (hgd:o.guard=A0) (s x:Operand) (t:Bo)
  (ho:o.op=.call { callee:=.builtin .append,args:=#[s,x],argTypes:=#[t,t] })
  (base:Nat) (e:Bo) (i:TypeInfo) (z:Ak) (size bytes:Nat) (ht:P.underlying t=A3 (.slice e)) (hi:P.info? e=A3 i) (hz:i.zero=A3 z)
  (hsize:i.size=size) (hby:i.bytes=bytes) (hzs:z.cells.size=size) (hsz:0<size)
  (v:Ak) (n:Nat) (xs:List Ak) (hs:a.eval s=v) (hown:OwnZ w base e size v n xs)
  (ad:Aq) (m c:Nat) (news:List Ak) (hx:a.eval x=.slice (A3 ad) m c) (hl:news.length=m*size) (hnews:∀ j u,news[j]?=A3 u->w.cell? (ad.add j)=A3 u) (h1:∀ u∈news,u.oneCell'=true)
  (h63:n+m<=Ap) (hbytes:(n+m)*bytes<=140737488355328) (hbase:base<=w.heap.size)
  (h:∀ v' w',OwnZ w' base e size v' (n+m) (xs++news)->w.grownBy w' v.ownBlock->Aa base w w'->K (a.put o.dst v') w') :
  if Region.wanted o (yielded ops a.tmps)=true then Oper.wp P o a w K Q else E:=by
 have hw:=zfv;rw[if_pos hw];rcases hown with⟨rfl,rfl,X,rfl⟩ | ⟨hown,hne⟩
 ·obtain⟨v',w',hr,h2,h3⟩:=run_append_lit (P:=P) w base t o.type e i z size bytes ht hi hz hsize hby hzs hsz X ad m c news hl hnews oQ (by simpa using hbytes) hbase;unfold Oper.wp execOp;simp only[ho,resolve,invoke,builtin,Sem.run_bind,Sem.run_pure,Result.andThen_ok,I1,BX,Do,hs,hx,hr];exact h v' w' (by rw[Ct,List.nil_append];exact h2) ⟨h3.os,h3.tape,h3.output,h3.size,fun k hk _=>h3.block k hk oZ⟩ ((Ah base w).grown h3 hbase (fun j hj=>by cases hj))
 ·obtain⟨v',w',hr,h2,h3,h4,_⟩:=run_append_own_at (P:=P) w base t o.type e i z size bytes ht hi hz hsize hby hzs hsz v n xs hown ad m c news hl hnews h1 h63 hbytes hbase;unfold Oper.wp execOp;simp only[ho,resolve,invoke,builtin,Sem.run_bind,Sem.run_pure,Result.andThen_ok,I1,BX,Do,hs,hx,hr];exact h v' w' (.inr ⟨h2,fun e=>hne (h4.1 e).1⟩) h3 ((Ah base w).grown h3 hbase (fun j hj=>(hown.lt j hj).1))
end
theorem el1 {w w1:Ab}{lit cs:Array Ak}{t t':Bo} (hg:((w.alloc (.cells lit t)).alloc (.cells cs t')).drew.grownBy w1 (A3 w.heap.size)):∀ j u,cs.toList[j]?=A3 u->w1.cell? ((⟨w.heap.size+1,0,A0⟩:Aq).add j)=A3 u:=by
 intro j u hj;have h:=AD (w.alloc (.cells lit t)) (w.heap.size+1) oZ cs t' j u hj;refine hg.cell h ?_;rw[Cs.add_at];simp
theorem el2 {w w1:Ab}{lit cs:Array Ak}{t t':Bo} (hg:((w.alloc (.cells cs t')).alloc (.cells lit t)).drew.grownBy w1 (A3 (w.heap.size+1))):∀ j u,cs.toList[j]?=A3 u->w1.cell? ((⟨w.heap.size,0,A0⟩:Aq).add j)=A3 u:=by
 intro j u hj;have h:=AD w w.heap.size rfl cs t' j u hj;have h2:((w.alloc (.cells cs t')).alloc (.cells lit t)).cell? ((⟨w.heap.size,0,A0⟩:Aq).add j)=A3 u:=A4 (Tx.newb _ _) h;refine hg.cell h2 ?_;rw[Cs.add_at];simp
end Sq
end Go.Proofs.YtlakomilichhnaaGreatDoor
