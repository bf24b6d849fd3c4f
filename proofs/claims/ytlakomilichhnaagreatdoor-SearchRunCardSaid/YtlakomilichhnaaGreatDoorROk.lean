/- Parts. -/
import Derived.Test.YtlakomilichhnaaGreatDoorRPb
namespace Go.Proofs.YtlakomilichhnaaGreatDoor
set_option maxHeartbeats 6400000
set_option maxRecDepth 100000
open Go.RowKit
open Go renaming Addr->Aq,World->Ab,cell_later->A4
open Ix renaming OwnI->Bq,keyS->LG,nkey->Gt,skey->LF
open Lib renaming hid->J
open List renaming getElem?_eq_getElem->Ai,getElem?_map->AP,mem_append->AQ,mem_append_left->Cr,mem_filter->Be,mem_of_getElem?->AJ,mem_of_getLast?->Jn,mem_singleton->B9,take_length->At
open Nat renaming add_zero->BN,le_refl->Ad,le_succ->L9,zero_le->Am
open Option renaming none->A0,some->A3
open Proofs.Tryz renaming prog->A8,underlying159->Iv,underlying160->GN
open RowKit renaming Below->Aa
open Tx renaming newb->A9,step->Ac
open Vm renaming Map->G8,upd->H7,upd_other->C3,upd_same->EV
open World renaming ownsRow_nil->AI
namespace Rc
end Rc
namespace Ix
open Rc
abbrev nilSl:Value:=.slice A0 0 0
def lkF (T:List PT) (f id:Int):Lit->Option Value
 | .string s=>(lk T f id s).map fun t=>.slice t.2.1 t.1.at_.length t.2.2
 | _=>A0
def gF (g:Int->Option Nat):Lit->Option Value
 | .int .i64 x=>(g x).map fun b=>.map (A3 b)
 | _=>A0
theorem lkF_str (T:List PT) (f id:Int) (s:By):lkF T f id (.string s)=(lk T f id s).map fun t=>.slice t.2.1 t.1.at_.length t.2.2:=rfl
theorem gF_int (g:Int->Option Nat) (x:Int):gF g (.int .i64 x)=(g x).map fun b=>.map (A3 b):=rfl
theorem lkF_take {T:List PT}{k:Nat}{t:PT} (f:Int) (h:T[k]?=A3 t) (hf:t.1.fld=f):lkF (T.take (k+1)) f t.1.id=H7 (lkF (T.take k) f t.1.id) (.string t.1.word) (.slice t.2.1 t.1.at_.length t.2.2):=by
 funext y;cases y with
 | string s =>
  rw[lkF_str,lk_take f _ s h];by_cases e:t.1.word=s
  ·subst e;rw[if_pos (hitP_iff.2 ⟨hf,rfl,rfl⟩),EV];rfl
  ·rw[if_neg (fun h9=>e (hitP_iff.1 h9).2.2),C3 _ _ (fun h9=>e (by injection h9 with h9;exact h9.symm)),lkF_str]
 | _=>rw[C3 _ _ (by intro h9;cases h9)];rfl
theorem lkF_other {T:List PT}{k:Nat}{t:PT}{f x:Int} (h:T[k]?=A3 t) (hx:t.1.fld≠f\/t.1.id≠x):lkF (T.take (k+1)) f x=lkF (T.take k) f x:=by
 funext y;cases y with
 | string s =>
  rw[lkF_str,lkF_str,lk_take f _ s h,if_neg (fun h9=>by
   obtain⟨h1,h2,_⟩:=hitP_iff.1 h9;rcases hx with hx | hx
   ·exact hx h1
   ·exact hx h2)]
 | _=>rfl
theorem gF_put (g:Int->Option Nat) (id:Int) (b:Nat):H7 (gF g) (.int .i64 id) (.map (A3 b))=gF (fun x=>if x=id then A3 b else g x):=by
 funext y;by_cases h:∃ x,y=.int .i64 x
 ·obtain⟨x,rfl⟩:=h;by_cases e:x=id
  ·subst e;rw[EV,gF_int,if_pos rfl];rfl
  ·rw[C3 _ _ (fun h9=>e (by injection h9)),gF_int,gF_int,if_neg e]
 ·rw[C3 _ _ (fun h9=>h ⟨id,h9⟩)];unfold gF;split
  ·rename_i x;exact absurd ⟨x,rfl⟩ h
  ·rfl
def ofB (T:List PT) (f x:Int):Prop:=∃ t∈T,t.1.fld=f/\t.1.id=x
structure PlS (w:Ab) (M k m:Nat) (T:List PT) (f:Int) (S:Int->Prop) (g:Int->Option Nat):Prop where
 outer:G8 3 w M m (gF g)
 ids:∀ x,(g x).isSome=true↔S x
 inner:∀ x b,g x=A3 b->G8 9 w b k (lkF (T.take k) f x)/\M<b
 sep:∀ x y b,g x=A3 b->g y=A3 b->x=y
theorem PlS.congr {w:Ab}{M k m:Nat}{T:List PT}{f:Int}{S S':Int->Prop}{g:Int->Option Nat} (h:PlS w M k m T f S g) (hS:∀ x,S x↔S' x):PlS w M k m T f S' g :=
 ⟨h.outer,fun x=>(h.ids x).trans (hS x),h.inner,h.sep⟩
theorem PlS.below {w w':Ab}{M k m:Nat}{T:List PT}{f:Int}{S:Int->Prop}{g:Int->Option Nat} (h:PlS w M k m T f S g) (hb:Aa w.heap.size w w'):PlS w' M k m T f S g :=
 ⟨h.outer.below hb,h.ids,fun x b hx=>⟨(h.inner x b hx).1.below hb,(h.inner x b hx).2⟩,h.sep⟩
theorem PlS.start (w:Ab) (T:List PT) (f:Int):PlS (w.alloc (.map #[] 0)) w.heap.size 0 0 T f (ofB (T.take 0) f) (fun _=>A0):=by
 refine⟨?_,fun x=>⟨qJ,fun⟨t,ht,_⟩=>by simp at ht⟩,(fun x b h=>by cases h),(fun x y b h=>by cases h)⟩;have h:=Vm.Map.made 3 w
 have e:gF (fun _=>A0)=fun _=>A0:=by
  funext y;unfold gF;split <;> rfl
 rw[e];exact h
theorem PlS.skip {w:Ab}{M k m:Nat}{T:List PT}{f:Int}{g:Int->Option Nat}{t:PT} (h:PlS w M k m T f (ofB (T.take k) f) g) (ht:T[k]?=A3 t) (hf:t.1.fld≠f):PlS w M (k+1) m T f (ofB (T.take (k+1)) f) g:=by
 refine⟨h.outer,fun x=>(h.ids x).trans ?_,fun x b hx=>⟨?_,(h.inner x b hx).2⟩,h.sep⟩
 ·unfold ofB;rw[take_snoc ht];constructor
  ·rintro⟨u,hu,h1⟩;exact⟨u,Cr _ hu,h1⟩
  ·rintro⟨u,hu,h1,h2⟩;rcases AQ.1 hu with hu | hu
   ·exact⟨u,hu,h1,h2⟩
   ·rw[B9]at hu;rw[hu]at h1;exact absurd h1 hf
 ·rw[lkF_other ht (.inl hf)];exact ((h.inner x b hx).1).mono (L9 k)
theorem PlS.fresh {w wA w':Ab}{M k m b:Nat}{T:List PT}{f id:Int}{g:Int->Option Nat} (h:PlS w M k m T f (ofB (T.take k) f) g) (hn:g id=A0) (hA:Aa w.heap.size w wA)
  (hb:G8 9 wA b 0 (fun _=>A0)) (hbl:w.heap.size<=b) (hM:G8 3 w' M (m+1) (H7 (gF g) (.int .i64 id) (.map (A3 b)))) (hg:wA.grownBy w' (A3 M)) :
  PlS w' M k (m+1) T f (fun x=>ofB (T.take k) f x\/x=id) (fun x=>if x=id then A3 b else g x):=by
 have hML:=h.outer.lt;have hs:=hA.size;refine⟨by rw[<- gF_put];exact hM,fun x=>?_,fun x b2 hx=>?_,fun x y b2 hx hy=>?_⟩
 ·by_cases e:x=id
  ·rw[if_pos e];exact⟨fun _=>.inr e,fun _=>rfl⟩
  ·rw[if_neg e,h.ids x];exact⟨.inl,fun h9=>h9.resolve_right e⟩
 ·by_cases e:x=id
  ·rw[if_pos e]at hx;injection hx with hx;subst hx e;refine⟨?_,oQ⟩
   have e2:lkF (T.take k) f x=fun _=>A0:=by
    funext y;cases y with
    | string s =>
     rw[lkF_str];unfold lk;cases hc:(List.filter (hitP f x s) (T.take k)).getLast? with
     | none=>rfl
     | some u =>
      obtain⟨h1,h2⟩:=Be.1 (Jn hc);have:=(h.ids x).2 ⟨u,h1,(hitP_iff.1 h2).1,(hitP_iff.1 h2).2.1⟩;rw[hn]at this;cases this
    | _=>rfl
   rw[e2];exact (hb.kept hg OD).mono (Am _)
  ·rw[if_neg e]at hx;obtain⟨h1,h2⟩:=h.inner x b2 hx;exact⟨(h1.below hA).kept hg OD,h2⟩
 ·have key:∀ {x:Int},g x=A3 b->False:=fun {x} h9=>by
   have:=(h.inner x b h9).1.lt;omega
  by_cases e1:x=id <;> by_cases e2:y=id
  ·rw[e1,e2]
  ·rw[if_pos e1]at hx;rw[if_neg e2]at hy;injection hx with hx;rw[<- hx]at hy;exact (key hy).elim
  ·rw[if_neg e1]at hx;rw[if_pos e2]at hy;injection hy with hy;rw[<- hy]at hx;exact (key hx).elim
  ·rw[if_neg e1]at hx;rw[if_neg e2]at hy;exact h.sep x y b2 hx hy
theorem PlS.word {w w':Ab}{M k m b:Nat}{T:List PT}{f:Int}{S:Int->Prop}{g:Int->Option Nat}{t:PT} (h:PlS w M k m T f S g) (ht:T[k]?=A3 t) (hf:t.1.fld=f) (hS:∀ x,S x↔ofB (T.take k) f x\/x=t.1.id) (hg1:g t.1.id=A3 b)
  (hM:G8 9 w' b (k+1) (H7 (lkF (T.take k) f t.1.id) (.string t.1.word) (.slice t.2.1 t.1.at_.length t.2.2))) (hg:w.grownBy w' (A3 b)):PlS w' M (k+1) m T f (ofB (T.take (k+1)) f) g:=by
 have hMb:=(h.inner _ _ hg1).2;refine⟨h.outer.kept hg OD,fun x=>(h.ids x).trans ((hS x).trans ?_),fun x b2 hx=>⟨?_,(h.inner x b2 hx).2⟩,h.sep⟩
 ·unfold ofB;rw[take_snoc ht];constructor
  ·rintro (⟨u,hu,h1⟩ | rfl)
   ·exact⟨u,Cr _ hu,h1⟩
   ·exact⟨t,List.mem_append_right _ oZ,hf,rfl⟩
  ·rintro⟨u,hu,h1,h2⟩;rcases AQ.1 hu with hu | hu
   ·exact .inl ⟨u,hu,h1,h2⟩
   ·rw[B9]at hu;rw[hu]at h2;exact .inr h2.symm
 ·by_cases e:x=t.1.id
  ·subst e;rw[hg1]at hx;injection hx with hx;subst hx;rw[lkF_take f ht hf];exact hM
  ·have hne:b2≠b:=fun e9=>e (h.sep x t.1.id b (by rw[<- e9];exact hx) hg1);rw[lkF_other ht (.inr (fun e9=>e e9.symm))];exact ((h.inner x b2 hx).1.kept hg (fun e9=>hne (by injection e9))).mono (L9 k)
theorem lk_sl {w:Ab}{T:List PT}{f id:Int}{s:By} (h:Ats w T):∃ a c,(lkF T f id (.string s)).getD nilSl=.slice a (atL T f id s).length c/\IA w a c (atL T f id s)/\(atL T f id s).length<=9223372036854775807:=by
 rw[lkF_str];unfold atL lk;cases hc:(T.filter (hitP f id s)).getLast? with
 | none =>
  refine⟨A0,0,rfl,?_,oZ⟩;obtain⟨a,c,e,h1,_⟩:=IA.of_own (AI w 0 3 1) (xs:=[]) rfl;injection e with e1 _ e2;subst e1 e2;exact h1
 | some t =>
  have ht:=(Be.1 (Jn hc)).1;have h9:=h t ht;refine⟨t.2.1,t.2.2,rfl,h9,?_⟩;have h1:=h9.cap;have h2:=h9.max;unfold maxLen at h2;show t.1.at_.length<=_;omega
end Ix
theorem ix_cont_c (L:List Int) (a:Option Aq) (c:Nat) (x:Int) (w:Ab) (h:Ix.IA w a c L):Calls A8 40 #[.slice a L.length c,.int .i64 x] w fun e w'=>e=.returned (.bool (L.contains x))/\w'=w:=by
 by_cases hne:L=[]
 ·subst hne;exact Tryz.slices_Contains_int_empty a c x w
 ·obtain⟨b,o,h1,h2⟩:=h.at_;obtain⟨rfl,hb⟩:=h1 hne;have hcap:=h.cap;have hmax:=h.max;unfold maxLen at hmax
  have hx:=Tryz.slices_Contains_int b o L.length c L x w (Ad _) oQ (fun j hj=>by
   have:=h2 j 0 _ _ (Ai hj) rfl;rw[Nat.mul_one,BN]at this;rw[this,List.getD_eq_getElem?_getD,Ai hj];rfl)
  rw[At]at hx;exact hx
theorem Ix.slzero (w:Ab):(zeroValue 35).run A8 w=.ok (.slice A0 0 0) w:=by kernel_rfl
theorem Ix.mzero (w:Ab):(zeroValue 160).run A8 w=.ok (.map A0) w:=by kernel_rfl
theorem ix_follows_c (T:List Ix.PT) (f id start:Int) (b n:Nat) (ws:List Ix.By) (wa:Option Aq) (wc:Nat) (w:Ab) (hM:G8 9 w b n (Ix.lkF T f id)) (hA:Ix.Ats w T) (hw:SLA w wa wc (ws.map fun x=>(⟨x.toArray⟩:ByteArray))) (hl:ws.length<=1000) (hz:∀ s∈ws,s.length<=50000000) :
  Calls A8 151 #[.map (A3 b),.slice wa ws.length wc,.int .i64 start] w fun e w'=>e=.returned (.bool (Ix.folP T f id start 0 ws))/\w=w':=by
 have HW:=J hw;have hcap:=hw.cap;rw[List.length_map]at hcap;have HA:=zfe;have HM:=J hM;have HZ:=J hz;clear hw hA hM hz;go_enter Tryz.func151,Tryz.ntmps151;go_wp2;go_loopw [11] (fun i wr=>∃ (k:Nat),k<=ws.length/\i=.int .i64 k/\Hid (Ix.folP T f id start k (ws.drop k)=Ix.folP T f id start 0 ws)/\wr=w) (fun i _=>ws.length - (intOf i).toNat)
 case atStart=>exact⟨0,Am _,rfl,J rfl,rfl⟩
 case round =>
  obtain⟨k,hk,rfl,hE,rfl⟩:=hrel;by_cases hlt:k<ws.length
  ·obtain⟨s,hs⟩:∃ s,ws[k]?=A3 s:=⟨_,Ai hlt⟩;have hdr:=Ix.drop_cons hs;obtain⟨q,o,rfl,hq,c0⟩:=HW.out.get (k:=k) (x:=⟨s.toArray⟩) (by rw[AP,hs];rfl);have hsl:=HZ.out s (AJ hs);obtain⟨a,c,ev,hI,hll⟩:=Ix.lk_sl (f:=f) (id:=id) (s:=s) HA.out;have hrun:=HM.out.look LF GN (Ix.slzero wr) (LG s oQ) (v:=.slice a (Ix.atL T f id s).length c) ev;have hE2:=hE.out;rw[hdr,Ix.folP]at hE2;have HC:=J (ix_cont_c (Ix.atL T f id s) a c (IntKind.i64.wrap (start+(k:Int))) wr hI);rw[IntWalk.i64_left]at hE2 HC;clear ev hI hdr hs;cases hq:(Ix.atL T f id s).contains (wrap64 (start+(k:Int))) with
   | true =>
    rw[hq,Bool.true_and]at hE2;rw[hq]at HC;have HE2:=J hE2;clear hE2 hq;go_wp2_with (go_at_call 40;(with_reducible refine HC.out.mono ?_);rintro e w1 ⟨rfl,rfl⟩);go_roundw
    case rel=>exact⟨k+1,hlt,by go_num,HE2,trivial⟩
    case measure=>simp[intOf];omega
   | false =>
    rw[hq,Bool.false_and]at hE2;rw[hq]at HC;have HE2:=J hE2;clear hE2 hq;go_wp2_with (go_at_call 40;(with_reducible refine HC.out.mono ?_);rintro e w1 ⟨rfl,rfl⟩);go_ret;exact⟨by rw[<- HE2.out];rfl,rfl⟩
  ·obtain rfl:k=ws.length:=oQ;have hE2:=hE.out;rw[List.drop_length,Ix.folP]at hE2;have HE2:=J hE2;clear hE2 hE;go_wp2;go_ret;exact⟨by rw[<- HE2.out];rfl,rfl⟩
namespace Ix
open Rc
def PlR (M k:Nat) (T:List PT) (f:Int) (w:Ab):Prop:=∃ g,PlS w M k k T f (ofB (T.take k) f) g
def PhR (M r n B m:Nat) (g:Int->Option Nat) (PH:(Lit->Bool)->List Int->Prop) (v:Value) (w:Ab):Prop:=∃ (left:Lit->Bool) (cnt:Nat) (L:List Int),Vm.Rng 3 w M r n (gF g) left cnt/\w.ownsRow B 3 1 v L.length (L.map (Value.int .i64))/\PH left L/\L.length+cnt<=m
theorem PlS.mono {w:Ab}{M k m m':Nat}{T:List PT}{f:Int}{S:Int->Prop}{g:Int->Option Nat} (h:PlS w M k m T f S g) (hm:m<=m'):PlS w M k m' T f S g:=⟨h.outer.mono hm,h.ids,h.inner,h.sep⟩
theorem nkeyOf {x:Int} (hw:(Lit.int .i64 x).wf=true):keyOf A8 3 (.int .i64 x)=A3 (.int .i64 x):=Maps.keyOf_int_mk Tryz.underlying3 hw
theorem gF_get {g:Int->Option Nat}{x:Int}{v:Value} (h:gF g (.int .i64 x)=A3 v):∃ b,g x=A3 b/\v=.map (A3 b):=by
 rw[gF_int]at h;cases hg:g x with
 | none=>rw[hg]at h;cases h
 | some b=>rw[hg]at h;injection h with h;exact⟨b,rfl,h.symm⟩
structure PhS (g:Int->Option Nat) (T:List PT) (f:Int) (ws:List By) (left:Lit->Bool) (L:List Int):Prop where
 nd:L.Nodup
 mem:∀ z,z∈L↔(g z).isSome=true/\left (.int .i64 z)=false/\hits T f ws z=true
theorem PhS.start (g:Int->Option Nat) (T:List PT) (f:Int) (ws:List By):PhS g T f ws (fun kl=>(gF g kl).isSome) []:=by
 refine⟨List.nodup_nil,fun z=>⟨qJ,fun⟨h1,h2,_⟩=>?_⟩⟩;have:(gF g (.int .i64 z)).isSome=(g z).isSome:=by unfold gF;simp
 rw[this,h1]at h2;cases h2
theorem strike (left:Lit->Bool) (x z:Int):(left (.int .i64 z)&&!(Lit.int .i64 z).sameKey (.int .i64 x))=false↔left (.int .i64 z)=false\/z=x:=by
 have:(Lit.int .i64 z).sameKey (.int .i64 x)=decide (z=x):=by
  rw[Bool.eq_iff_iff];simp[Lit.sameKey]
 rw[this];by_cases h:z=x <;> simp[h]
theorem PhS.add {g:Int->Option Nat}{T:List PT}{f:Int}{ws:List By}{left:Lit->Bool}{L:List Int} (h:PhS g T f ws left L) {x:Int} (hx:(g x).isSome=true) (hl:left (.int .i64 x)=true) (hh:hits T f ws x=true):PhS g T f ws (fun z=>left z&&!z.sameKey (.int .i64 x)) (L++[x]):=by
 refine⟨List.nodup_append.2 ⟨h.nd,oZ,fun a ha b hb=>?_⟩,fun z=>?_⟩
 ·rw[B9]at hb;rw[hb];intro e;subst e;have:=((h.mem a).1 ha).2.1;rw[hl]at this;cases this
 ·simp only[AQ,B9,strike];constructor
  ·rintro (h1 | rfl)
   ·have h2:=(h.mem z).1 h1;exact⟨h2.1,.inl h2.2.1,h2.2.2⟩
   ·exact⟨hx,.inr rfl,hh⟩
  ·rintro⟨h1,h2 | h2,h3⟩
   ·exact .inl ((h.mem z).2 ⟨h1,h2,h3⟩)
   ·exact .inr h2
theorem PhS.pass {g:Int->Option Nat}{T:List PT}{f:Int}{ws:List By}{left:Lit->Bool}{L:List Int} (h:PhS g T f ws left L) {x:Int} (hh:hits T f ws x=false):PhS g T f ws (fun z=>left z&&!z.sameKey (.int .i64 x)) L:=by
 refine⟨h.nd,fun z=>?_⟩;simp only[strike];constructor
 ·intro h1;have h2:=(h.mem z).1 h1;exact⟨h2.1,.inl h2.2.1,h2.2.2⟩
 ·rintro⟨h1,h2 | h2,h3⟩
  ·exact (h.mem z).2 ⟨h1,h2,h3⟩
  ·rw[h2,hh]at h3;cases h3
theorem PhS.done {g:Int->Option Nat}{T:List PT}{f:Int}{ws:List By}{left:Lit->Bool}{L:List Int} (h:PhS g T f ws left L) (hg:∀ x,(g x).isSome=true↔ofB T f x) (hl:∀ kl,left kl=false):(L.mergeSort fun x y=>decide (x<=y))=Cp.puts Cp.ltI (phrQ T f ws):=by
 refine Cp.puts_of Cp.ordI ?_ fun z=>?_
 ·have h1:=Cp.sorted_pairI L;have h2:(L.mergeSort fun x y=>decide (x<=y)).Nodup:=(List.mergeSort_perm L _).nodup_iff.2 h.nd;have h3:=h1.and h2
  exact h3.imp fun {a b} h9=>by
   obtain⟨h4,h5⟩:=h9;unfold Cp.ltI at *;simp only[decide_eq_false_iff_not,decide_eq_true_eq]at *;omega
 ·rw[(List.mergeSort_perm L _).mem_iff,h.mem z,hg z,hl];unfold phrQ;rw[Be,ofF_mem];unfold ofB;simp
end Ix
theorem run_eql_mapnil {P:Program} (w:Ab) (t k e:TypeId) (m:Option Nat) (h:P.underlying t=A3 (.map k e)):(binOp .eql t (.map m) (.map A0)).run P w=.ok (.bool m.isNone) w:=by
 simp only[binOp];simp[run_equal_map_nil w t k e m h]
theorem ix_Phrase_nil (T:List Ix.PT) (a:Option Aq) (c:Nat) (f:Int) (wa:Option Aq) (wc:Nat) (w:Ab) :
  Calls A8 83 #[.agg #[.slice a T.length c],.int .i64 f,.slice wa 0 wc] w fun e w'=>∃ v,e=.returned v/\Bq w' w.heap.size v []/\Aa w.heap.size w w':=by
 go_enter Tryz.func83,Tryz.ntmps83;go_wp2;go_ret;exact⟨_,rfl,AI _ _ _ _,A9 _ _⟩
theorem ix_Phrase_some (T:List Ix.PT) (a:Option Aq) (c:Nat) (f:Int) (s0:Ix.By) (l:List Ix.By) (wa:Option Aq) (wc:Nat) (w:Ab) (h:Ix.PsA w a c T) (hn:T.length<=5000000000) (hw:SLA w wa wc ((s0::l).map fun x=>(⟨x.toArray⟩:ByteArray))) (hl:(s0::l).length<=1000) (hz:∀ s∈s0::l,s.length<=50000000) (hwd:∀ t∈T,t.1.word.length<=140737488351232) (hid:∀ t∈T,-9223372036854775808<=t.1.id/\t.1.id<=9223372036854775807) :
  Calls A8 83 #[.agg #[.slice a T.length c],.int .i64 f,.slice wa (s0::l).length wc] w fun e w'=>∃ v,e=.returned v/\Bq w' w.heap.size v (Cp.puts Cp.ltI (Ix.phrQ T f (s0::l)))/\Aa w.heap.size w w':=by
 obtain⟨i0,hi0,hz0,hz1,hz2⟩:=zhb;have HI:=J hi0;clear hi0;have hcap:=h.fa.cap;obtain⟨ws,hws⟩:∃ ws,s0::l=ws:=⟨_,rfl⟩;have hw0:0<ws.length:=by rw[<- hws];simp
 have hs0:ws[0]?=A3 s0:=by rw[<- hws];rfl
 have hhit:∀ x,Ix.hits T f ws x=(Ix.atL T f x s0).any fun n=>Ix.folP T f x n 0 ws:=fun x=>by rw[<- hws];rfl
 have hhs:=hz s0 (List.mem_cons_self ..);rw[hws]at hw hl hz ⊢;have HHIT:=J hhit;have HWS:=J hw;have HZ:=J hz;have HWD:=J hwd;have HID:=J hid;clear hws hhit hw hz hwd hid;obtain⟨W,hW,hB,c0⟩:=zcy;have HS:=J (h.below hB);have HWS2:=J (HWS.out.below hB);clear h;obtain⟨M,hMe⟩:∃ M,W.heap.size=M:=⟨_,rfl⟩;have hML:w.heap.size<M:=by rw[<- hMe,<- hW];simp
 have HME:=J hMe;obtain⟨W1,hW1⟩:∃ W1,W.alloc (.map #[] 0)=W1:=⟨_,rfl⟩;have hP0:Ix.PlS W1 M 0 0 T f (Ix.ofB (T.take 0) f) (fun _=>A0):=by rw[<- hW1,<- hMe];exact Ix.PlS.start W T f
 have HB1:Hid (Aa W.heap.size W W1):=J (by rw[<- hW1];exact A9 _ _);have hmm:=zmk;have HPZ:=J hP0;have hws0:((ws.length:Int) == 0)=false:=beq_eq_false_iff_ne.2 oQ;have e0:=A4 HB1.out c0;clear hP0;go_enter Tryz.func83,Tryz.ntmps83;go_wp2;clear hW hW1 hMe;go_loopw [22] (fun i wr=>∃ (k:Nat),k<=T.length/\i=.int .i64 k/\Ix.PlR M k T f wr/\Aa W.heap.size W wr) (fun i _=>T.length - (intOf i).toNat)
 case atStart=>exact⟨0,Am _,by go_num,⟨_,HPZ.out⟩,HB1.out⟩
 case round =>
  obtain⟨k,hk,rfl,⟨g,hP⟩,hb⟩:=hrel;have HP:=J hP;clear hP;have hbs:=hb.size;have HMW:Hid (W.heap.size<=M):=J (by rw[HME.out];exact Ad _);by_cases hlt:k<T.length
  ·obtain⟨⟨y,ya,yc⟩,hy⟩:=zaz;have hym:=AJ hy;obtain⟨b,o,rfl,hbl,g0,g1,g2,g3,_⟩:=zkd;simp only at g0 g1 g2 g3;replace g0:=A4 hb g0;replace g1:=A4 hb g1;replace g2:=A4 hb g2;replace g3:=A4 hb g3;obtain⟨V,hV⟩:∃ V,wr.alloc (.cells #[.int .i64 y.fld,.string ⟨y.word.toArray⟩,.int .i64 y.id,.slice ya y.at_.length yc] 100)=V:=⟨_,rfl⟩;have hbV:Aa wr.heap.size wr V:=by rw[<- hV];exact A9 _ _
   have HVB:=J (Ac hb hbV);have hsV:wr.heap.size<V.heap.size:=by rw[<- hV];simp
   have KV:Hid (V.heap[wr.heap.size]?=A3 (.cells #[.int .i64 y.fld,.string ⟨y.word.toArray⟩,.int .i64 y.id,.slice ya y.at_.length yc] 100 (0,0))):=J (by rw[<- hV];exact heap_alloc_new wr _);obtain⟨z0,z1,z2,z3,-⟩:=Tx.c4 KV.out;have HKM:Hid (k<maxLen/\k+1<maxLen):=J oK;by_cases hf:y.fld=f
   ·have t0:(y.fld == f)=true:=by simpa using hf
    have hwf:(Lit.int .i64 y.id).wf=true:=WalkArith.wf_i64 (by have:=HID.out _ hym;simp only at this;omega);have hwl:y.word.length<=9223372036854775807:=by have:=HWD.out _ hym;simp only at this;omega
    have HF:=J hf;have HY:=J hy;have HWF:=J hwf;have hPV:=HP.out.below hbV;cases hg:g y.id with
    | some b2 =>
     have hrun:=hPV.outer.look Gt Iv (Ix.mzero V) (Ix.nkeyOf hwf) (v:=.map (A3 b2)) ztg;have HPV:=J hPV;have HG:=J hg;have hnn:(binOp .eql 160 (.map (A3 b2)) (.map A0)).run A8 V=.ok (.bool false) V:=run_eql_mapnil V _ _ _ (A3 b2) GN;clear hf hy hg hwf hPV hym;go_wp2_with (at_mapUpdate;go_must (refine Vm.put_step (HPV.out.inner _ _ HG.out).1 HKM.out.1 LF (LG _ hwl) trivial rfl _ _ _ rfl GN rfl rfl rfl ?_);intro w3 hM3 hg3);have hPN:=HPV.out.word HY.out HF.out (fun x=>⟨.inl,fun h9=>h9.elim id (fun e=>by rw[e];exact (HPV.out.ids _).1 (by rw[HG.out];rfl))⟩) HG.out hM3 hg3;have hb3:Aa W.heap.size W w3:=HVB.out.grown hg3 HVB.out.size (fun j hj=>by injection hj with hj;have:=(HPV.out.inner _ _ HG.out).2;have:=HMW.out;omega);go_roundw
     case rel=>exact⟨k+1,hlt,by go_num,⟨g,hPN.mono (L9 k)⟩,hb3⟩
     case measure=>simp[intOf];omega
    | none =>
     have hrun:=hPV.outer.look Gt Iv (Ix.mzero V) (Ix.nkeyOf hwf) (v:=.map A0) ztg;have HPV:=J hPV;have HG:=J hg;have hnn:(binOp .eql 160 (.map A0) (.map A0)).run A8 V=.ok (.bool true) V:=run_eql_mapnil V _ _ _ A0 GN;obtain⟨B2,hB2⟩:∃ B2,V.heap.size=B2:=⟨_,rfl⟩;have HB2:=J hB2;have HMN:Hid (wr.heap.size≠M):=J (by have:=HP.out.outer.lt;omega);obtain⟨V2,hV2⟩:∃ V2,V.alloc (.map #[] 0)=V2:=⟨_,rfl⟩;have HV2:Hid (Aa V.heap.size V V2):=J (by rw[<- hV2];exact A9 _ _);have hsV2:wr.heap.size<V2.heap.size:=by rw[<- hV2];simp;omega
     have HM2:Hid (G8 9 V2 B2 0 (fun _=>A0)):=J (by rw[<- hV2,<- hB2];exact Vm.Map.made _ _);have KV2:Hid (V2.heap[wr.heap.size]?=A3 (.cells #[.int .i64 y.fld,.string ⟨y.word.toArray⟩,.int .i64 y.id,.slice ya y.at_.length yc] 100 (0,0))):=J ((HV2.out.block _ hsV).trans KV.out);obtain⟨-,-,q2,-⟩:=Tx.c3 KV2.out;clear hf hy hg hPV hym
     go_wp2_with (first
      |(at_mapUpdate;refine Vm.put_step HIN.out HKM.out.1 LF (LG _ hwl) trivial rfl _ _ _ rfl GN rfl rfl rfl ?_;intro w4 hM4 hg4)
      |(at_mapUpdate;go_must (refine Vm.put_step (HPV.out.below HV2.out).outer HKM.out.1 Gt (Ix.nkeyOf hwf) trivial rfl _ _ _ rfl Iv rfl rfl rfl ?_);intro w3 hM3 hg3;have HF3:=J (HPV.out.fresh HG.out HV2.out HM2.out (by rw[HB2.out];exact Ad _) hM3 hg3);have hrun3:=hM3.look Gt Iv (Ix.mzero w3) (Ix.nkeyOf hwf) (v:=.map (A3 B2)) (by rw[EV];rfl);have HIN:=J (HF3.out.inner y.id B2 (if_pos rfl)).1;have K3:=Tx.blk ((hg3.block _ hsV2 (fun e9=>HMN.out (by injection e9))).trans KV2.out);obtain⟨k3c,k3f,k3l⟩:=K3;have HG3:=J hg3;clear hM3 hg3))
     have hPN:=HF3.out.word HY.out HF.out (fun x=>Iff.rfl) (if_pos rfl) hM4 hg4;have hb3:Aa W.heap.size W w3:=(Ac HVB.out HV2.out).grown HG3.out (Ac HVB.out HV2.out).size (fun j hj=>by injection hj with hj;have:=HMW.out;omega);have hb4:Aa W.heap.size W w4:=hb3.grown hg4 hb3.size (fun j hj=>by injection hj with hj;have:=HB2.out;have:=HVB.out.size;omega);go_roundw
     case rel=>exact⟨k+1,hlt,by go_num,⟨_,hPN⟩,hb4⟩
     case measure=>simp[intOf];omega
   ·have t0:(y.fld == f)=false:=by simpa using hf
    have HN:=J ((HP.out.skip hy hf).mono (L9 k));clear hf hy;go_wp2;go_roundw
    case rel=>exact⟨k+1,hlt,by go_num,⟨g,HN.out.below hbV⟩,Ac hb hbV⟩
    case measure=>simp[intOf];omega
  ·obtain rfl:k=T.length:=oQ;have hPe:=HP.out.congr (S':=Ix.ofB T f) (fun x=>by rw[At]);have HPE:=J hPe;clear hPe HP;obtain⟨w2,h2⟩:∃ w2,w2=wr:=⟨_,rfl⟩;subst h2;go_wp2_with (at_range;refine Vm.range_step HPE.out.outer Gt rfl _ rfl Iv rfl ?_;intro wq cnt0 hc0 hR0 hg0 hs0);go_frame;have HBQ:Hid (Aa w2.heap.size w2 wq):=J ⟨hg0.os,hg0.tape,hg0.output,hg0.size,fun j hj=>hg0.block j hj oZ⟩;have HRQ:=J hR0;clear hR0 hg0 hs0;go_loopw [10,61] (fun v _ w5=>Ix.PhR M w2.heap.size T.length w2.heap.size T.length g (Ix.PhS g T f ws) v w5/\Aa w2.heap.size w2 w5) (fun _ _ w5=>w5.rangeLeft M w2.heap.size)
   case atStart=>exact⟨⟨_,cnt0,[],HRQ.out,AI _ _ _ _,Ix.PhS.start g T f ws,by simpa using hc0⟩,HBQ.out⟩
   case round =>
    obtain⟨⟨left,cnt,L,hR,hown,hPH,hlc⟩,hb5⟩:=hrel;have HR:=J hR;have HPH:=J hPH;clear hR hPH;obtain⟨w5,h5⟩:∃ w5,w5=wr:=⟨_,rfl⟩;subst h5;go_wp2_with (at_next;refine Vm.next_step HR.out rfl _ rfl rfl ?_ ?_)
    ·intro hc hl9;have HL:=J hl9;clear hl9 hc;go_wp2_with (go_at_call 87;(with_reducible refine (SortI_c hown oQ).mono ?_);rintro e w6 ⟨rfl,hownS,hg6⟩);go_ret;have hd:=HPH.out.done HPE.out.ids HL.out;rw[hd]at hownS;have hl2:L.length=(Cp.puts Cp.ltI (Ix.phrQ T f ws)).length:=by rw[<- hd,List.length_mergeSort]
     rw[hl2]at hownS;have hbz:Aa W.heap.size W w6:=(Ac hb hb5).grown hg6 (Ac hb hb5).size OW;exact⟨_,rfl,Ix.row_lower hownS (by have:=hB.size;omega),Ac hB hbz⟩
    ·intro x v w6 cnt6 hwf hlk hfx hR6 hlt6 hg6 hs6 hen;obtain⟨b2,hgx,rfl⟩:=Ix.gF_get hfx;clear hs6 hfx;have hown6:Bq w6 w2.heap.size _ L:=hown.kept hg6 (.inr (HR.out.ne_row hown));have hb6:Aa w2.heap.size w2 w6:=hb5.grown hg6 hb5.size iX;have hb6s:=hb6.size;obtain⟨va,vc,rfl,_⟩:=own_shape2 hown6;have HR6:=J hR6;have HLK:=J hlk;have HGX:=J hgx;have HO6:=J hown6;have hbW:Aa W.heap.size W w6:=Ac hb hb6;have HA6:Hid (Ix.Ats w6 T):=J (HS.out.ats.below hbW);have HW6:=J (HWS2.out.below hbW);obtain⟨qa,qo,rfl,hql,hqc⟩:=HW6.out.get (k:=0) (x:=⟨s0.toArray⟩) (by rw[AP,hs0];rfl);rw[BN]at hqc;have hIM:=((HPE.out.below hb6).inner x b2 hgx).1;rw[At]at hIM;obtain⟨a1,c1,ev,hI,hll⟩:=Ix.lk_sl (f:=f) (id:=x) (s:=s0) HA6.out;have hrun:=hIM.look LF GN (Ix.slzero w6) (LG s0 oQ) (v:=.slice a1 (Ix.atL T f x s0).length c1) ev;have HIM:=J hIM;have HIA:=J hI;have HHX:=J (HHIT.out x);obtain⟨N,hN⟩:∃ N,Ix.atL T f x s0=N:=⟨_,rfl⟩;rw[hN]at hrun hll HIA HHX;have hLm:L.length+1<=5000000001:=oQ;have HF:=fun n w' (h9:Aa w6.heap.size w6 w')=>ix_follows_c T f x n b2 T.length ws (A3 ⟨qa,qo,A0⟩) wc w' (HIM.out.below h9) (HA6.out.below h9) (HW6.out.below h9) hl HZ.out;have HFO:=J HF;clear hR6 hlk hgx hown6 hIM ev hI hN hown HF;go_wp2;go_loop [10,61] (fun v0 i=>v0=.slice va L.length vc/\∃ j:Nat,j<=N.length/\i=.int .i64 j/\Hid (∀ n∈N.take j,Ix.folP T f x n 0 ws=false)) (fun _ i=>N.length - (intOf i).toNat)
     case atStart=>exact⟨rfl,0,Am _,by go_num,J (fun n hn=>by simp at hn)⟩
     case round =>
      obtain⟨rfl,j,hj,rfl,HNO⟩:=hrel;by_cases hjl:j<N.length
      ·obtain⟨n,hn⟩:∃ n,N[j]?=A3 n:=⟨_,Ai hjl⟩;obtain⟨b7,o7,rfl,hb7,hc7⟩:=HIA.out.cell hn;have HNN:=J hn;clear hn;cases hq:Ix.folP T f x n 0 ws with
       | true =>
        have HC:=J (HFO.out n w6 (Below.refl _ _));rw[hq]at HC;have HQ:=zlb;clear hq
        go_wp2_with (first
         |(go_at_call 151;(with_reducible refine HC.out.mono ?_);rintro e w7 ⟨rfl,rfl⟩)
         |(at_builtin;go_must (refine wpList_append_sl rfl _ _ 35 rfl w2.heap.size 3 i0 _ 1 8 Tryz.underlying35 HI.out hz0 hz1 hz2 rfl oX _ (L.length) _ rfl (HO6.out.alloc _) (A3 ⟨_,0,A0⟩) 1 1 [.int .i64 x] rfl rfl oF oD oG oK oQ oW ?_);intro v8 w8 hown8 hg8 hnil8))
        have hR8:=(HR6.out.below (A9 w6 _)).kept hg8 (HR6.out.map.ne_row HO6.out).symm (HR6.out.ne_row HO6.out).symm;have hP8:=HPH.out.add (by rw[HGX.out];rfl) HLK.out (by rw[HHX.out,List.any_eq_true];exact⟨n,AJ HNN.out,HQ.out⟩);have hb8:Aa w2.heap.size w2 w8:=(Ac hb6 (A9 w6 _)).grown hg8 oW (fun j hj=>(HO6.out.lt j hj).1);go_roundw
        case rel=>exact⟨⟨_,cnt6,L++[x],hR8,Ix.ownI_snoc hown8,hP8,by rw[List.length_append];simp;omega⟩,hb8⟩
        case measure=>rw[hR8.left_eq,HR.out.left_eq];exact hlt6
       | false =>
        have HC:=J (HFO.out n w6 (Below.refl _ _));rw[hq]at HC;have HQ:=zlb;clear hq;go_wp2_with (go_at_call 151;(with_reducible refine HC.out.mono ?_);rintro e w7 ⟨rfl,rfl⟩);go_round
        case rel=>exact⟨rfl,j+1,hjl,by go_num,J (fun m hm=>by
         rw[Ix.take_snoc HNN.out]at hm;rcases AQ.1 hm with hm | hm
         ·exact HNO.out m hm
         ·rw[B9]at hm;rw[hm];exact HQ.out)⟩
        case measure=>simp[intOf];omega
      ·obtain rfl:j=N.length:=oQ;have hno:=HNO.out;rw[At]at hno
       have hP8:=HPH.out.pass (x:=x) (by
        rw[HHX.out,Bool.eq_false_iff];intro h9;obtain⟨n,h10,h11⟩:=List.any_eq_true.1 h9;rw[hno n h10]at h11;cases h11)
       have HP8:=J hP8;clear hno hP8;go_wp2;go_roundw
       case rel=>exact⟨⟨_,cnt6,L,HR6.out,HO6.out,HP8.out,oQ⟩,hb6⟩
       case measure=>rw[HR6.out.left_eq,HR.out.left_eq];exact hlt6
theorem ix_Phrase_c (T:List Ix.PT) (a:Option Aq) (c:Nat) (f:Int) (ws:List Ix.By) (wa:Option Aq) (wc:Nat) (w:Ab) (h:Ix.PsA w a c T) (hn:T.length<=5000000000) (hw:SLA w wa wc (ws.map fun x=>(⟨x.toArray⟩:ByteArray))) (hl:ws.length<=1000) (hz:∀ s∈ws,s.length<=50000000) (hwd:∀ t∈T,t.1.word.length<=140737488351232) (hid:∀ t∈T,-9223372036854775808<=t.1.id/\t.1.id<=9223372036854775807) :
  Calls A8 83 #[.agg #[.slice a T.length c],.int .i64 f,.slice wa ws.length wc] w fun e w'=>∃ v,e=.returned v/\Bq w' w.heap.size v (Cp.puts Cp.ltI (Ix.phrQ T f ws))/\Aa w.heap.size w w':=by
 cases ws with
 | nil =>
  have e:Ix.phrQ T f []=[]:=by unfold Ix.phrQ Ix.hits;simp
  rw[e];exact ix_Phrase_nil T a c f wa wc w
 | cons s0 l=>exact ix_Phrase_some T a c f s0 l wa wc w h hn hw hl hz hwd hid
end Go.Proofs.YtlakomilichhnaaGreatDoor
