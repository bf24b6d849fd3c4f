/- Texts of this seat's, what the claim needs of them. -/
import Derived.Test.YtlakomilichhnaaGreatDoorZOd
import Derived.Test.YtlakomilichhnaaGreatDoorZOb
namespace Go.Proofs.YtlakomilichhnaaGreatDoor
set_option maxHeartbeats 1600000
set_option maxRecDepth 100000
open Go.RowKit
open Go renaming Addr→Ao,Value→Ah,World→A9,cell_later→A0,maxLen→Au
open Lib renaming hid→J
open List renaming getElem?_eq_getElem→A7,getElem?_eq_some_iff→Ai,getElem?_map→AE,length_map→At,mem_of_getElem?→Ag,take_append_drop→BJ,take_length→Ap
open Nat renaming le_trans→AK,lt_of_lt_of_le→B1
open Option renaming map_eq_some_iff→BZ,none→A4,some→A2
open Qr renaming depth→H4,depthL→Es,depthL_app→J6,nodes→D1,nodesL→CJ,nodesL_app→Gr
open RowKit renaming Below→A6
namespace Br
structure FA {α:Type} (enc:α→List Ah) (size:Nat) (w:A9) (a:Option Ao) (c:Nat) (xs:List α):Prop where
 cap:xs.length≤c
 max:c≤Au
 at_:∃ b o,(xs≠[]→a=A2 ⟨b,o,A4⟩∧b<w.heap.size)∧∀ (j i:Nat) (x:α) (u:Ah),xs[j]?=A2 x→(enc x)[i]?=A2 u→w.cell? ⟨b,o+j*size+i,A4⟩=A2 u
variable {α : Type} {enc : α → List Ah} {size : Nat}
theorem FA.below {w w':A9}{a:Option Ao}{c:Nat}{xs:List α} (h:FA enc size w a c xs) (hb:A6 w.heap.size w w'):FA enc size w' a c xs:=by
 obtain⟨b,o,h1,h2⟩:=h.at_
 exact⟨h.cap,h.max,b,o,fun hn=>⟨(h1 hn).1,B1 (h1 hn).2 hb.size⟩,fun j i x u hx hu=>A0 hb (h2 j i x u hx hu)⟩
theorem FA.get {w:A9}{a:Option Ao}{c:Nat}{xs:List α} (h:FA enc size w a c xs) {k:Nat}{x:α} (hk:xs[k]?=A2 x) :
  ∃ b o,a=A2 ⟨b,o,A4⟩∧b<w.heap.size∧∀ i u,(enc x)[i]?=A2 u→w.cell? ⟨b,o+k*size+i,A4⟩=A2 u:=by
 obtain⟨b,o,h1,h2⟩:=h.at_
 have hne:xs≠[]:=by intro h0;subst h0;simp at hk
 exact⟨b,o,(h1 hne).1,(h1 hne).2,fun i u hu=>h2 k i x u hk hu⟩
theorem FA.none {w:A9}{a:Option Ao}{c:Nat}{xs:List α} (h:FA enc size w a c xs):a=A4→xs.length=0:=by
 intro ha
 obtain⟨b,o,h1,_⟩:=h.at_
 cases xs with
 | nil=>rfl
 | cons x r=>have:=(h1 (by simp)).1;rw[ha]at this;cases this
theorem FA.cells (hs:∀ x,(enc x).length=size) (h0:0<size) {w:A9}{a:Option Ao}{c:Nat}{xs:List α} (h:FA enc size w a c xs):∀ ad,a=A2 ad→∀ j u,(xs.flatMap enc)[j]?=A2 u→w.cell? (ad.add j)=A2 u:=by
 intro ad ha j u hj
 have hl:j<xs.length*size:=by
  have:=(Ai.1 hj).1
  rw[flat_len enc size hs]at this
  exact this
 have hk:j / size<xs.length:=(Nat.div_lt_iff_lt_mul h0).2 hl
 obtain⟨x,hx⟩:∃ x,xs[j / size]?=A2 x:=⟨_,A7 hk⟩
 have hi:=Nat.mod_lt j h0
 have e:j / size*size+j % size=j:=by rw[Nat.mul_comm];exact Nat.div_add_mod j size
 have hf:=flat_at enc size hs xs (j / size) (j % size) x hx hi
 rw[e,hj]at hf
 obtain⟨b,o,hb,_,hc⟩:=h.get hx
 rw[hb]at ha
 injection ha with ha
 subst ha
 have:=hc (j % size) u hf.symm
 rw[Nat.add_assoc,e]at this
 rw[Cs.add_at]
 exact this
theorem FA.of_own (hs:∀ x,(enc x).length=size) {w:A9}{B e n:Nat}{v:Ah}{xs:List α} (h:w.ownsRow B e size v n (xs.flatMap enc)) (hn:n=xs.length):∃ a c,v=.slice a xs.length c∧FA enc size w a c xs∧(∀ g,a=A2 g→B≤g.block):=by
 obtain⟨a,c,rfl,hc,hm,hx⟩:=own_any hs h hn
 have hB:∀ g,a=A2 g→B≤g.block:=by
  intro g hg
  subst hg
  rcases h.2 with⟨h7,_⟩ | ⟨g7,_,_,h7,h8,_⟩
  ·cases h7
  ·cases h7;exact h8
 refine⟨a,c,rfl,⟨hc,hm,?_⟩,hB⟩
 rcases hx with rfl | ⟨g,rfl,_,hg,hat⟩
 ·exact⟨0,0,fun h9=>absurd rfl h9,fun j i x u hj=>by simp at hj⟩
 ·refine⟨g,0,fun _=>⟨rfl,hg⟩,fun j i x u hj hu=>?_⟩
  rw[Nat.zero_add]
  exact hat j i x u hj (by rw[← hs x];exact (Ai.1 hu).1) hu
theorem choose_list {α β:Type}:∀ (l:List α) (P:Nat→α × β→Prop),(∀ j x,l[j]?=A2 x→∃ y,P j (x,y))→∃ T:List (α × β),T.map (·.1)=l∧∀ j t,T[j]?=A2 t→P j t
 | [],_,_=>⟨[],rfl,fun j t h=>by simp at h⟩
 | x::l,P,h=>by
  obtain⟨y,hy⟩:=h 0 x rfl
  obtain⟨T,h1,h2⟩:=choose_list l (fun j=>P (j+1)) (fun j z hz=>h (j+1) z (by simpa using hz))
  refine⟨(x,y)::T,by simp[h1],fun j t ht=>?_⟩
  cases j with
  | zero=>simp at ht;subst ht;exact hy
  | succ j=>exact h2 j t (by simpa using ht)
theorem flat_one (h:∀ x,∀ u∈enc x,u.oneCell'=true) (xs:List α):∀ u∈xs.flatMap enc,u.oneCell'=true:=fun u hu=>by
 obtain⟨x,_,h2⟩:=List.mem_flatMap.1 hu
 exact h x u h2
end Br
namespace Rc
open Go.Lib
abbrev encS (x:UInt8 × ByteArray):List Ah:=[.int .u8 x.1.toNat,.string x.2]
theorem encS_len (x:UInt8 × ByteArray):(encS x).length=2:=rfl
theorem SubA.of_fa {w:A9}{a:Option Ao}{c:Nat}{xs:List (UInt8 × ByteArray)} (h:Br.FA encS 2 w a c xs):SubA w a c xs:=by
 obtain⟨b,o,h1,h2⟩:=h.at_
 exact⟨h.cap,h.max,b,o,h1,fun j x hx=>⟨h2 j 0 x _ hx rfl,h2 j 1 x _ hx rfl⟩⟩
abbrev FT:=Fl × Option Ao × Nat
abbrev encF (t:FT):List Ah:=[.string t.1.tag,.string t.1.ind,.slice t.2.1 t.1.subs.length t.2.2,.int .i64 t.1.auth]
theorem encF_len (t:FT):(encF t).length=4:=rfl
theorem FldA.of_fa {w:A9}{a:Option Ao}{c:Nat}{T:List FT} (h:Br.FA encF 4 w a c T) (hs:∀ t∈T,SubA w t.2.1 t.2.2 t.1.subs):FldA w a c (T.map (·.1)):=by
 obtain⟨b,o,h1,h2⟩:=h.at_
 refine⟨by rw[At];exact h.cap,h.max,b,o,fun h9=>h1 (fun h8=>h9 (by rw[h8];rfl)),fun j f hj=>?_⟩
 rw[AE]at hj
 obtain⟨x,hx,rfl⟩:=BZ.1 hj
 exact⟨h2 j 0 x _ hx rfl,h2 j 1 x _ hx rfl,⟨x.2.1,x.2.2,h2 j 2 x _ hx rfl,hs x (Ag hx)⟩,h2 j 3 x _ hx rfl⟩
abbrev RT:=Rd × Option Ao × Nat
abbrev encR (t:RT):List Ah:=[.int .i64 t.1.id,.int .i64 t.1.ver,.int .i64 t.1.kind,.string t.1.lang,.slice t.2.1 t.1.fields.length t.2.2]
theorem encR_len (t:RT):(encR t).length=5:=rfl
theorem r_one (t:RT):∀ u∈encR t,u.oneCell'=true:=by simp[encR,Value.oneCell']
structure RdA (w:A9) (a:Option Ao) (c:Nat) (rs:List Rd):Prop where
 cap:rs.length≤c
 max:c≤Au
 at_:∃ b o,(rs≠[]→a=A2 ⟨b,o,A4⟩∧b<w.heap.size)∧∀ (j:Nat) r,rs[j]?=A2 r→w.cell? ⟨b,o+j*5,A4⟩=A2 (.int .i64 r.id)∧w.cell? ⟨b,o+j*5+1,A4⟩=A2 (.int .i64 r.ver)∧w.cell? ⟨b,o+j*5+2,A4⟩=A2 (.int .i64 r.kind)∧w.cell? ⟨b,o+j*5+3,A4⟩=A2 (.string r.lang) ∧
  ∃ fa fc,w.cell? ⟨b,o+j*5+4,A4⟩=A2 (.slice fa r.fields.length fc)∧FldA w fa fc r.fields
theorem RdA.below {w w':A9}{a:Option Ao}{c:Nat}{rs:List Rd} (h:RdA w a c rs) (hb:A6 w.heap.size w w'):RdA w' a c rs:=by
 obtain⟨b,o,h1,h2⟩:=h.at_
 refine⟨h.cap,h.max,b,o,fun hn=>⟨(h1 hn).1,B1 (h1 hn).2 hb.size⟩,fun j x hx=>?_⟩
 obtain⟨c0,c1,c2,c3,fa,fc,c4,hf⟩:=h2 j x hx
 exact⟨A0 hb c0,A0 hb c1,A0 hb c2,A0 hb c3,fa,fc,A0 hb c4,hf.below hb⟩
theorem RdA.get {w:A9}{a:Option Ao}{c:Nat}{rs:List Rd} (h:RdA w a c rs) {k:Nat}{r:Rd} (hk:rs[k]?=A2 r) :
  ∃ b o fa fc,a=A2 ⟨b,o,A4⟩∧b<w.heap.size∧w.cell? ⟨b,o+k*5,A4⟩=A2 (.int .i64 r.id)∧w.cell? ⟨b,o+k*5+1,A4⟩=A2 (.int .i64 r.ver)∧w.cell? ⟨b,o+k*5+2,A4⟩=A2 (.int .i64 r.kind)∧w.cell? ⟨b,o+k*5+3,A4⟩=A2 (.string r.lang) ∧
   w.cell? ⟨b,o+k*5+4,A4⟩=A2 (.slice fa r.fields.length fc)∧FldA w fa fc r.fields:=by
 obtain⟨b,o,h1,h2⟩:=h.at_
 have hne:rs≠[]:=by intro h0;subst h0;simp at hk
 obtain⟨c0,c1,c2,c3,fa,fc,c4,hf⟩:=h2 k r hk
 exact⟨b,o,fa,fc,(h1 hne).1,(h1 hne).2,c0,c1,c2,c3,c4,hf⟩
theorem RdA.of_fa {w:A9}{a:Option Ao}{c:Nat}{T:List RT} (h:Br.FA encR 5 w a c T) (hs:∀ t∈T,FldA w t.2.1 t.2.2 t.1.fields):RdA w a c (T.map (·.1)):=by
 obtain⟨b,o,h1,h2⟩:=h.at_
 refine⟨by rw[At];exact h.cap,h.max,b,o,fun h9=>h1 (fun h8=>h9 (by rw[h8];rfl)),fun j f hj=>?_⟩
 rw[AE]at hj
 obtain⟨x,hx,rfl⟩:=BZ.1 hj
 exact⟨h2 j 0 x _ hx rfl,h2 j 1 x _ hx rfl,h2 j 2 x _ hx rfl,h2 j 3 x _ hx rfl,x.2.1,x.2.2,h2 j 4 x _ hx rfl,hs x (Ag hx)⟩
end Rc
namespace Qr
structure Fr (g:Nat) (w w':A9):Prop where
 os:w'.os=w.os
 tape:w'.tape=w.tape
 output:w'.output=w.output
 size:w.heap.size≤w'.heap.size
 block:∀ k,k≠g→k<w.heap.size→w'.heap[k]?=w.heap[k]?
theorem Fr.refl (g:Nat) (w:A9):Fr g w w:=⟨rfl,rfl,rfl,Nat.le_refl _,fun _ _ _=>rfl⟩
theorem Fr.trans {g:Nat}{a b c:A9} (h:Fr g a b) (k:Fr g b c):Fr g a c :=
 ⟨k.os.trans h.os,k.tape.trans h.tape,k.output.trans h.output,AK h.size k.size,fun i hi hl=>(k.block i hi (B1 hl h.size)).trans (h.block i hi hl)⟩
theorem Fr.of_below {g:Nat}{w w':A9} (h:A6 w.heap.size w w'):Fr g w w':=⟨h.os,h.tape,h.output,h.size,fun k _ hl=>h.block k hl⟩
theorem Fr.drew {g:Nat}{a w:A9} (h:Fr g a w):Fr g a w.drew:=⟨h.os,h.tape,h.output,h.size,h.block⟩
theorem Fr.alloc {g:Nat}{a w:A9} (h:Fr g a w) (o:Obj):Fr g a (w.alloc o):=h.trans (.of_below ((Below.refl _ _).alloc (Nat.le_refl _) _))
theorem Fr.set {g:Nat}{a w:A9} (h:Fr g a w) {p:Ao} (hp:p.block=g) (u:Ah):Fr g a (w.setCell p u) :=
 h.trans ⟨rfl,rfl,rfl,by simp[World.setCell],fun k hk _=>Below.heap_setCell _ _ _ _ (by rw[hp];exact hk)⟩
theorem Fr.setNew {g:Nat}{a w:A9} (h:Fr g a w) {p:Ao} (hp:a.heap.size≤p.block) (u:Ah):Fr g a (w.setCell p u) :=
 ⟨h.os,h.tape,h.output,AK h.size (by simp[World.setCell]),fun k hk hl=>(Below.heap_setCell _ _ _ _ (by omega)).trans (h.block k hk hl)⟩
theorem Fr.grown {g:Nat}{a w w':A9}{row:Option Nat} (h:Fr g a w) (hg:w.grownBy w' row) (hr:∀ k,row=A2 k→a.heap.size≤k):Fr g a w' :=
 ⟨hg.os.trans h.os,hg.tape.trans h.tape,hg.output.trans h.output,AK h.size hg.size,fun k hk hl=>(hg.block k (B1 hl h.size) (fun e=>by have:=hr k e.symm;omega)).trans (h.block k hk hl)⟩
theorem Fr.below {g B:Nat}{w w':A9} (h:Fr g w w') (hB:B≤g) (hg:g<w.heap.size):A6 B w w' :=
 ⟨h.os,h.tape,h.output,h.size,fun k hk=>h.block k (by omega) (by omega)⟩
theorem Fr.cell {g:Nat}{w w':A9} (h:Fr g w w') {b o:Nat}{v:Ah} (hb:b≠g) (hc:w.cell? ⟨b,o,A4⟩=A2 v):w'.cell? ⟨b,o,A4⟩=A2 v :=
 (World.cell?_of_block (w:=w) (h.block b hb (Rc.cell_lt hc))).trans hc
theorem Fr.own {g B:Nat}{w w':A9}{e size n:Nat}{v:Ah}{xs:List Ah} (h:Fr g w w') (ho:w.ownsRow B e size v n xs) (hB:g<B):w'.ownsRow B e size v n xs:=by
 refine⟨ho.1,?_⟩
 rcases ho.2 with h1 | ⟨k,cap,cur,h1,h2,h3,h4⟩
 ·exact .inl h1
 ·exact .inr ⟨k,cap,cur,h1,h2,(h.block k (by omega) (Array.getElem?_eq_some_iff.1 h3).1).trans h3,h4⟩
theorem Fr.fa {α:Type}{enc:α→List Ah}{size:Nat}{g:Nat}{w w':A9}{a:Option Ao}{c:Nat}{xs:List α} (h:Fr g w w') (hf:Br.FA enc size w a c xs) (hb:xs≠[]→∀ ad,a=A2 ad→g+1≤ad.block):Br.FA enc size w' a c xs:=by
 obtain⟨b,o,h1,h2⟩:=hf.at_
 by_cases hne:xs=[]
 ·subst hne
  exact⟨hf.cap,hf.max,b,o,fun h9=>absurd rfl h9,fun j i x u hx=>by simp at hx⟩
 ·have h3:=hb hne _ (h1 hne).1
  refine⟨hf.cap,hf.max,b,o,fun hn=>⟨(h1 hn).1,B1 (h1 hn).2 h.size⟩,fun j i x u hx hu=>h.cell (show b≠g by simp only at h3;omega) (h2 j i x u hx hu)⟩
def LowS (B:Nat) (v:Ah) (xs:List ByteArray):Prop:=xs≠[]→∀ ad l c,v=.slice (A2 ad) l c→B≤ad.block
theorem Fr.sl {g:Nat}{w w':A9}{v:Ah}{xs:List ByteArray} (h:Fr g w w') (hs:SL w v xs) (hb:LowS (g+1) v xs):SL w' v xs:=by
 rcases hs with h1 | ⟨b,o,c,h1,h2,h3,h4,h5⟩
 ·exact .inl h1
 ·by_cases hne:xs=[]
  ·exact .inl ⟨hne,_,_,by rw[h1,hne];rfl⟩
  ·have:=hb hne _ _ _ h1
   exact .inr ⟨b,o,c,h1,h2,h3,B1 h4 h.size,fun j x hx=>h.cell (show b≠g by simp only at this;omega) (h5 j x hx)⟩
inductive QC (B:Nat) (w:A9):Qy→List Ah→Prop
 | mk {op f a b:Int}{ws:List ByteArray}{ks:List Qy}{sa:Option Ao}{sc:Nat}{ka:Option Ao}{kc:Nat}{css:List (List Ah)}
   (hw:SL w (.slice sa ws.length sc) ws) (hwb:LowS B (.slice sa ws.length sc) ws) (hl:css.length=ks.length)
   (hk:∀ (j:Nat) k cs,ks[j]?=A2 k→css[j]?=A2 cs→QC B w k cs)
   (hf:Br.FA id 6 w ka kc css) (hfb:css≠[]→∀ ad,ka=A2 ad→B≤ad.block) :
   QC B w (.mk op f ws a b ks) [.int .i64 op,.int .i64 f,.slice sa ws.length sc,.int .i64 a,.int .i64 b,.slice ka ks.length kc]
theorem QC.fr {g B:Nat}{w w':A9}{q:Qy}{cs:List Ah} (h:QC B w q cs) (hF:Fr g w w') (hB:g<B):QC B w' q cs:=by
 induction h with
 | mk hw hwb hl _ hf hfb ih =>
  exact .mk (hF.sl hw fun h1 ad l c h2=>AK (by omega) (hwb h1 ad l c h2)) hwb hl (fun j k cs h1 h2=>ih j k cs h1 h2) (hF.fa hf fun h1 ad h2=>AK (by omega) (hfb h1 ad h2)) hfb
theorem QC.later {B:Nat}{w w':A9}{q:Qy}{cs:List Ah} (h:QC B w q cs) (hb:A6 w.heap.size w w'):QC B w' q cs:=by
 induction h with
 | mk hw hwb hl _ hf hfb ih=>exact .mk (hw.below hb) hwb hl (fun j k cs h1 h2=>ih j k cs h1 h2) (hf.below hb) hfb
theorem QC.mono {B B':Nat}{w:A9}{q:Qy}{cs:List Ah} (h:QC B w q cs) (hB:B'≤B):QC B' w q cs:=by
 induction h with
 | mk hw hwb hl _ hf hfb ih=>exact .mk hw (fun h1 ad l c h2=>AK hB (hwb h1 ad l c h2)) hl (fun j k cs h1 h2=>ih j k cs h1 h2) hf (fun h1 ad h2=>AK hB (hfb h1 ad h2))
structure KA (B:Nat) (w:A9) (a:Option Ao) (c:Nat) (ks:List Qy):Prop where
 ex:∃ css:List (List Ah),css.length=ks.length∧(∀ (j:Nat) k cs,ks[j]?=A2 k→css[j]?=A2 cs→QC B w k cs)∧Br.FA id 6 w a c css∧(css≠[]→∀ ad,a=A2 ad→B≤ad.block)
theorem QC.kids {B:Nat}{w:A9}{q:Qy}{cs:List Ah} (h:QC B w q cs):∃ sa sc ka kc,cs=[.int .i64 q.op,.int .i64 q.fld,.slice sa q.ws.length sc,.int .i64 q.a,.int .i64 q.b,.slice ka q.ks.length kc]∧SL w (.slice sa q.ws.length sc) q.ws∧LowS B (.slice sa q.ws.length sc) q.ws∧KA B w ka kc q.ks:=by
 cases h with
 | mk hw hwb hl hk hf hfb=>exact⟨_,_,_,_,rfl,hw,hwb,⟨_,hl,hk,hf,hfb⟩⟩
theorem QC.of_kids {B:Nat}{w:A9}{op f a b:Int}{ws:List ByteArray}{ks:List Qy}{sa:Option Ao}{sc:Nat}{ka:Option Ao}{kc:Nat} (hw:SL w (.slice sa ws.length sc) ws) (hwb:LowS B (.slice sa ws.length sc) ws) (hk:KA B w ka kc ks) :
  QC B w (.mk op f ws a b ks) [.int .i64 op,.int .i64 f,.slice sa ws.length sc,.int .i64 a,.int .i64 b,.slice ka ks.length kc]:=by
 obtain⟨css,h1,h2,h3,h4⟩:=hk.ex
 exact .mk hw hwb h1 h2 h3 h4
theorem KA.below {B:Nat}{w w':A9}{a:Option Ao}{c:Nat}{ks:List Qy} (h:KA B w a c ks) (hb:A6 w.heap.size w w'):KA B w' a c ks:=by
 obtain⟨css,h1,h2,h3,h4⟩:=h.ex
 exact⟨css,h1,fun j k cs a b=>(h2 j k cs a b).later hb,h3.below hb,h4⟩
theorem KA.fr {g B:Nat}{w w':A9}{a:Option Ao}{c:Nat}{ks:List Qy} (h:KA B w a c ks) (hF:Fr g w w') (hB:g<B):KA B w' a c ks:=by
 obtain⟨css,h1,h2,h3,h4⟩:=h.ex
 exact⟨css,h1,fun j k cs a b=>(h2 j k cs a b).fr hF hB,hF.fa h3 (fun x ad y=>AK (by omega) (h4 x ad y)),h4⟩
theorem KA.max {B:Nat}{w:A9}{a:Option Ao}{c:Nat}{ks:List Qy} (h:KA B w a c ks):ks.length≤Au:=by
 obtain⟨css,h1,_,h3,_⟩:=h.ex
 rw[← h1]
 exact AK h3.cap h3.max
theorem KA.get {B:Nat}{w:A9}{a:Option Ao}{c:Nat}{ks:List Qy} (h:KA B w a c ks) {k:Nat}{q:Qy} (hk:ks[k]?=A2 q) :
  ∃ b o sa sc ka kc,a=A2 ⟨b,o,A4⟩∧b<w.heap.size∧w.cell? ⟨b,o+k*6,A4⟩=A2 (.int .i64 q.op)∧w.cell? ⟨b,o+k*6+1,A4⟩=A2 (.int .i64 q.fld)∧w.cell? ⟨b,o+k*6+2,A4⟩=A2 (.slice sa q.ws.length sc)∧w.cell? ⟨b,o+k*6+3,A4⟩=A2 (.int .i64 q.a)∧w.cell? ⟨b,o+k*6+4,A4⟩=A2 (.int .i64 q.b)∧w.cell? ⟨b,o+k*6+5,A4⟩=A2 (.slice ka q.ks.length kc) ∧
   QC B w q [.int .i64 q.op,.int .i64 q.fld,.slice sa q.ws.length sc,.int .i64 q.a,.int .i64 q.b,.slice ka q.ks.length kc]:=by
 obtain⟨css,h1,h2,h3,_⟩:=h.ex
 have hkl:k<css.length:=by rw[h1];exact (Ai.1 hk).1
 have hc:css[k]?=A2 css[k]:=A7 hkl
 have hq:=h2 k q _ hk hc
 obtain⟨sa,sc,ka,kc,e,_,_,_⟩:=hq.kids
 obtain⟨b,o,ha,hb,hat⟩:=h3.get hc
 rw[e]at hat hq
 exact⟨b,o,sa,sc,ka,kc,ha,hb,hat 0 _ rfl,hat 1 _ rfl,hat 2 _ rfl,hat 3 _ rfl,hat 4 _ rfl,hat 5 _ rfl,hq⟩
end Qr
theorem info_qy:(Tryz.prog.info? 29).map (fun i=>(i.zero,i.size,i.bytes))=A2 (A2 (.agg #[.int .i64 0,.int .i64 0,.slice A4 0 0,.int .i64 0,.int .i64 0,.slice A4 0 0]),6,80):=by kernel_rfl
theorem nodes_c (B:Nat):∀ (q:Qr.Qy) (cs:List Ah) (w:A9),Qr.QC B w q cs→D1 q≤1000000000 →
  Calls Tryz.prog 198 #[.agg cs.toArray] w fun e w'=>e=.returned (.int .i64 (D1 q))∧A6 w.heap.size w w':=by
 refine Qr.Qy.ind ?_
 intro op fl ws ya yb ks ih cs w h hn
 obtain⟨sa,sc,ka,kc,rfl,_,_,hK⟩:=h.kids
 dsimp only[Qr.Qy.op,Qr.Qy.fld,Qr.Qy.a,Qr.Qy.b,Qr.Qy.ks,Qr.Qy.ws]at hK ⊢
 have IH:=J ih;clear ih
 obtain⟨W,hW⟩:∃ W,w.alloc (.cells #[.int .i64 op,.int .i64 fl,.slice sa ws.length sc,.int .i64 ya,.int .i64 yb,.slice ka ks.length kc] 29)=W:=⟨_,rfl⟩
 have hB:A6 w.heap.size w W:=by rw[← hW];exact Tx.newb _ _
 have c0:W.cell? ⟨w.heap.size,0,A4⟩=A2 (.int .i64 op):=by rw[← hW];simp
 have c1:W.cell? ⟨w.heap.size,1,A4⟩=A2 (.int .i64 fl):=by rw[← hW];simp
 have c2:W.cell? ⟨w.heap.size,2,A4⟩=A2 (.slice sa ws.length sc):=by rw[← hW];simp
 have c3:W.cell? ⟨w.heap.size,3,A4⟩=A2 (.int .i64 ya):=by rw[← hW];simp
 have c4:W.cell? ⟨w.heap.size,4,A4⟩=A2 (.int .i64 yb):=by rw[← hW];simp
 have c5:W.cell? ⟨w.heap.size,5,A4⟩=A2 (.slice ka ks.length kc):=by rw[← hW];simp
 have hS:=hK.below hB
 have hmax:=hK.max
 have hmx:Au=9223372036854775807:=rfl
 have hkn:=Qr.ks_nodes ks
 unfold D1 at hn ⊢
 go_enter Tryz.func198,Tryz.ntmps198
 go_wp2
 clear hW c0 c1 c2 c3 c4 c5
 go_loopw [3,9] (fun n i wr=>∃ k:Nat,k≤ks.length∧i=.int .i64 k∧n=.int .i64 ((1+CJ (ks.take k):Nat):Int)∧A6 W.heap.size W wr) (fun _ i _=>ks.length - (intOf i).toNat)
 case atStart=>exact⟨0,Nat.zero_le _,rfl,rfl,Below.refl _ _⟩
 case round =>
  obtain⟨k,hk,rfl,rfl,hb⟩:=hrel
  by_cases hlt:k<ks.length
  ·obtain⟨x,hx⟩:∃ x,ks[k]?=A2 x:=⟨_,A7 hlt⟩
   obtain⟨b,o,sa2,sc2,ka2,kc2,rfl,hbl,d0,d1,d2,d3,d4,d5,hq⟩:=(hS.below hb).get hx
   have hmem:=Ag hx
   have hxn:=Qr.nodes_kid hmem
   have htk:=Qr.take_snoc hx
   have hT:CJ (ks.take (k+1))=CJ (ks.take k)+D1 x:=by rw[htk,Gr];simp[CJ]
   have hle:CJ (ks.take (k+1))≤CJ ks:=by
    have:=Gr (ks.take (k+1)) (ks.drop (k+1))
    rw[BJ]at this
    omega
   have HT:=J hT;clear hT
   have HM:=J hmem;clear hmem
   have HQ:=J hq;clear hq
   clear htk hx
   go_wp2_with (go_at_call 198;refine (IH.out x HM.out _ _ (HQ.out.later (Tx.newb _ _)) (by omega)).mono ?_;rintro e w1 ⟨rfl,hb1⟩)
   have HT2:=HT.out
   go_roundw
   case rel=>exact⟨k+1,hlt,by go_num,Tx.vint (by rw[HT2];first | go_num | (unfold wrap64;omega)),hb.trans (((Tx.newb _ _).trans (hb1.mono (by simp))).mono hb.size)⟩
   case measure=>simp[intOf];omega
  ·go_wp2
   go_ret
   have hkk:k=ks.length:=by omega
   subst hkk
   exact⟨Tx.ret1 (by first | (rw[Ap];done) | (rw[Ap];unfold wrap64;omega)),hB.trans (hb.mono hB.size)⟩
theorem Depth_c (B:Nat):∀ (q:Qr.Qy) (cs:List Ah) (w:A9),Qr.QC B w q cs→D1 q≤1000000000 →
  Calls Tryz.prog 199 #[.agg cs.toArray] w fun e w'=>e=.returned (.int .i64 (H4 q))∧A6 w.heap.size w w':=by
 refine Qr.Qy.ind ?_
 intro op fl ws ya yb ks ih cs w h hn
 obtain⟨sa,sc,ka,kc,rfl,_,_,hK⟩:=h.kids
 dsimp only[Qr.Qy.op,Qr.Qy.fld,Qr.Qy.a,Qr.Qy.b,Qr.Qy.ks,Qr.Qy.ws]at hK ⊢
 have IH:=J ih;clear ih
 obtain⟨W,hW⟩:∃ W,w.alloc (.cells #[.int .i64 op,.int .i64 fl,.slice sa ws.length sc,.int .i64 ya,.int .i64 yb,.slice ka ks.length kc] 29)=W:=⟨_,rfl⟩
 have hB:A6 w.heap.size w W:=by rw[← hW];exact Tx.newb _ _
 have c0:W.cell? ⟨w.heap.size,0,A4⟩=A2 (.int .i64 op):=by rw[← hW];simp
 have c1:W.cell? ⟨w.heap.size,1,A4⟩=A2 (.int .i64 fl):=by rw[← hW];simp
 have c2:W.cell? ⟨w.heap.size,2,A4⟩=A2 (.slice sa ws.length sc):=by rw[← hW];simp
 have c3:W.cell? ⟨w.heap.size,3,A4⟩=A2 (.int .i64 ya):=by rw[← hW];simp
 have c4:W.cell? ⟨w.heap.size,4,A4⟩=A2 (.int .i64 yb):=by rw[← hW];simp
 have c5:W.cell? ⟨w.heap.size,5,A4⟩=A2 (.slice ka ks.length kc):=by rw[← hW];simp
 have hS:=hK.below hB
 have hmax:=hK.max
 have hmx:Au=9223372036854775807:=rfl
 have hkn:=Qr.ks_nodes ks
 have hdn:=Qr.depth_nodes (.mk op fl ws ya yb ks)
 unfold D1 at hn hdn
 unfold H4 at hdn ⊢
 go_enter Tryz.func199,Tryz.ntmps199
 go_wp2
 clear hW c0 c1 c2 c3 c4 c5
 go_loopw [3,9] (fun n i wr=>∃ k:Nat,k≤ks.length∧i=.int .i64 k∧n=.int .i64 ((Es (ks.take k):Nat):Int)∧A6 W.heap.size W wr) (fun _ i _=>ks.length - (intOf i).toNat)
 case atStart=>exact⟨0,Nat.zero_le _,rfl,rfl,Below.refl _ _⟩
 case round =>
  obtain⟨k,hk,rfl,rfl,hb⟩:=hrel
  by_cases hlt:k<ks.length
  ·obtain⟨x,hx⟩:∃ x,ks[k]?=A2 x:=⟨_,A7 hlt⟩
   obtain⟨b,o,sa2,sc2,ka2,kc2,rfl,hbl,d0,d1,d2,d3,d4,d5,hq⟩:=(hS.below hb).get hx
   have hmem:=Ag hx
   have hxn:=Qr.nodes_kid hmem
   have htk:=Qr.take_snoc hx
   have hT:Es (ks.take (k+1))=max (Es (ks.take k)) (H4 x):=by rw[htk,J6];simp[Es]
   have hle:Es (ks.take (k+1))≤Es ks:=by
    have:=J6 (ks.take (k+1)) (ks.drop (k+1))
    rw[BJ]at this
    omega
   have HT:=J hT;clear hT
   have HM:=J hmem;clear hmem
   have HQ:=J hq;clear hq
   clear htk hx
   go_wp2_with (go_at_call 199;refine (IH.out x HM.out _ _ (HQ.out.later (Tx.newb _ _)) (by omega)).mono ?_;rintro e w1 ⟨rfl,hb1⟩)
   have HT2:=HT.out
   go_roundw
   case rel=>exact⟨k+1,hlt,by go_num,Tx.vint (by rw[HT2];first | go_num | (unfold wrap64;omega)),hb.trans (((Tx.newb _ _).trans (hb1.mono (by simp))).mono hb.size)⟩
   case measure=>simp[intOf];omega
  ·go_wp2
   go_ret
   have hkk:k=ks.length:=by omega
   subst hkk
   exact⟨Tx.ret1 (by first | (rw[Ap];done) | (rw[Ap];unfold wrap64;omega)),hB.trans (hb.mono hB.size)⟩
end Go.Proofs.YtlakomilichhnaaGreatDoor
