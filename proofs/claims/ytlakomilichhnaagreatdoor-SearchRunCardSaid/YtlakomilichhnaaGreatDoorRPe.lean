/- Parts. -/
import Derived.Test.YtlakomilichhnaaGreatDoorROu
namespace Go.Proofs.YtlakomilichhnaaGreatDoor
set_option maxRecDepth 100000
open Go.RowKit
open Go renaming World->Ab
open List renaming getElem?_append_left->Cd,getElem?_append_right->BE,length_append->Ag,length_cons->AH,length_nil->Bw,mem_cons->AL,mem_singleton->B9,nil_append->C8,tail_suffix->F8
open Nat renaming le_refl->Ad
open Tx renaming valid->AE
namespace Qr
theorem words_nil {t:List UInt8}:wordsB t=[]↔Tx.words t=[]:=by unfold wordsB;exact List.map_eq_nil_iff
end Qr
section
attribute [local go_sem] Qr.run_tok0 Qr.run_tok1 Qr.run_tok2
namespace Qr
theorem fa_new {w:Ab}{K:Nat}{T:List QT}{t:TypeId} (h:w.heap[K]?=some (.cells (T.flatMap encQ).toArray t (0,0))) (hm:T.length<=maxLen):Br.FA encQ 6 w (some ⟨K,0,none⟩) T.length T:=by
 obtain⟨c,_,hl⟩:=Tx.blk h;refine⟨Ad _,hm,K,0,fun _=>⟨rfl,hl⟩,fun j i x u hx hu=>?_⟩;have hi:i<6:=by have:=(List.getElem?_eq_some_iff.1 hu).1;rw[encQ_len]at this;exact this
 rw[Nat.zero_add,c,List.getElem?_toArray,Br.flat_at encQ 6 encQ_len T j i x hx hi,hu]
end Qr
end
namespace Qr
def Held (base:Nat) (w:Ab) (own:Option Nat) (k:Qy) (t:QT):Prop :=
 ∃ B w0,QC B w0 k (encQ t)/\Kp B w0 w/\(∀ b,own=some b->b<B\/w0.heap.size<=b)/\base<=B
def HL (base:Nat) (w:Ab) (own:Option Nat) (ks:List Qy) (T:List QT):Prop:=T.length=ks.length/\∀ (j:Nat) k t,ks[j]?=some k->T[j]?=some t->Held base w own k t
theorem HL.grown {base:Nat}{w w':Ab}{own own':Option Nat}{ks:List Qy}{T:List QT} (h:HL base w own ks T) (hg:w.grownBy w' own) (ho:own'=own\/own'=some w.heap.size):HL base w' own' ks T :=
 ⟨h.1,fun j k t h1 h2=>by
  obtain⟨B,w0,a,b,c,d⟩:=h.2 j k t h1 h2;refine⟨B,w0,a,⟨Nat.le_trans b.size hg.size,fun i i1 i2=>?_⟩,fun x hx=>?_,d⟩
  ·exact (hg.block i (Nat.lt_of_lt_of_le i2 b.size) (fun e=>by have:=c i e.symm;omega)).trans (b.block i i1 i2)
  ·rcases ho with ho | ho
   ·exact c x (by rw[<- ho];exact hx)
   ·rw[ho]at hx;injection hx with hx;have:=b.size;omega⟩
theorem HL.app {base:Nat}{w:Ab}{own:Option Nat}{ks ks2:List Qy}{T T2:List QT} (h:HL base w own ks T) (h2:HL base w own ks2 T2):HL base w own (ks++ks2) (T++T2):=by
 refine⟨by rw[Ag,Ag,h.1,h2.1],fun j k t hk ht=>?_⟩;by_cases hj:j<ks.length
 ·rw[Cd hj]at hk;rw[Cd UW]at ht;exact h.2 j k t hk ht
 ·rw[BE oQ]at hk;rw[BE (by rw[h.1];omega),h.1]at ht;exact h2.2 _ k t hk ht
theorem HL.ql {base:Nat}{w:Ab}{own:Option Nat}{ks:List Qy}{T:List QT} (h:HL base w own ks T):QL base w ks T :=
 ⟨h.1,fun j k t h1 h2=>by
  obtain⟨B,w0,a,b,_,d⟩:=h.2 j k t h1 h2;exact (a.kp b).mono d⟩
theorem HL.ka {base e:Nat}{w:Ab}{v:Value}{ks:List Qy}{T:List QT} (h:HL base w v.ownBlock ks T) (ho:w.ownsRow base e 6 v T.length (T.flatMap encQ)):∃ a c,v=.slice a ks.length c/\KA base w a c ks:=by
 obtain⟨a,c,e1,hf,hb⟩:=Br.FA.of_own encQ_len ho rfl;exact⟨a,c,by rw[<- h.1];exact e1,KA.of_ts h.ql hf (fun _ ad had=>hb ad had)⟩
def atOf (g:Nat) (w:Ab):Nat:=match w.cell? ⟨g,1,none⟩ with
 | some (.int _ n)=>n.toNat
 | _=>0
theorem PS.at_ {g:Nat}{l r:List Tok}{w:Ab} (h:PS g l r w):atOf g w=l.length - r.length:=by
 obtain⟨_,_,_,h1,_⟩:=h.cells;unfold atOf;rw[h1];simp
theorem nodesL_flat (op:Int):∀ l:List Qy,nodesL (l.flatMap (flat op))<=nodesL l
 | []=>by simp[nodesL]
 | .mk o f ws a b ks::r=>by
  have h1:=nodesL_flat op r;rw[List.flatMap_cons,nodesL_app,nodesL]
  have h2:nodesL (flat op (.mk o f ws a b ks))<=nodes (.mk o f ws a b ks):=by
   unfold flat;split
   ·simp only[Qy.ks,nodes];omega
   ·simp only[nodesL];omega
  omega
theorem joined_nodes (op:Int) (l:List Qy) (h:l≠[]):nodes (joined op l)+1<=nodesL l+l.length:=by
 by_cases h1:l.length=1
 ·match l,h1 with
  | [x],_=>simp only[joined_one,nodesL,AH,Bw];omega
 ·rw[joined_many op l h1];have:=nodesL_flat op l
  have hl:2<=l.length:=by
   cases l with
   | nil=>exact absurd rfl h
   | cons x r=>cases r with
    | nil=>simp at h1
    | cons y s=>simp
  simp only[nodes];omega
def Nb (r:List Tok) (x:PR):Prop:=∀ q r',x=some (q,r')->nodes q+1+2*r'.length<=2*r.length
theorem Nb.leaf {r:List Tok}{x:PR} (h:Eats r x) (hn:∀ q r',x=some (q,r')->nodes q=1):Nb r x:=fun q r' e=>by
 have:=(h q r' e).2;have:=hn q r' e;omega
theorem leaf_n (o f a b:Int) (ws:List ByteArray):nodes (.mk o f ws a b [])=1:=by simp[nodes,nodesL]
theorem years_leaf (st:Bool) (r:List Tok):∀ q r',pYears st r=some (q,r')->nodes q=1:=by
 intro q r' h;unfold pYears at h
 repeat' split at h
 all_goals first | (cases h;done) | (injection h with h;injection h with h _;rw[<- h];exact leaf_n _ _ _ _ _)
theorem term_leaf (st:Bool) (f:Int) (r:List Tok):∀ q r',pTerm st f r=some (q,r')->nodes q=1:=by
 intro q r' h;unfold pTerm at h
 repeat' split at h
 all_goals first | (cases h;done) | (injection h with h;injection h with h _;rw[<- h];exact leaf_n _ _ _ _ _)
theorem flat_leaf (st:Bool) (r:List Tok):∀ q r',pFlat st r=some (q,r')->nodes q=1:=by
 intro q r' h;unfold pFlat at h
 repeat' split at h
 all_goals first | (cases h;done) | exact years_leaf _ _ _ _ h | exact term_leaf _ _ _ _ _ h
theorem nodes_all (st:Bool):∀ n,(∀ r,Nb r (pOr st n r))/\(∀ acc r q r',acc≠[]->lOr st n acc r=some (q,r')->nodes q+1+2*r'.length<=nodesL acc+acc.length+2*r.length)/\(∀ r,Nb r (pAnd st n r))/\(∀ acc r q r',acc≠[]->lAnd st n acc r=some (q,r')->nodes q+1+2*r'.length<=nodesL acc+acc.length+2*r.length)/\(∀ r,Nb r (pNot st n r))/\(∀ r,Nb r (pPrim st n r))
 | 0=>⟨fun r q r' h=>by simp[pOr]at h,fun _ _ _ _ _ h=>by simp[lOr]at h,fun r q r' h=>by simp[pAnd]at h,fun _ _ _ _ _ h=>by simp[lAnd]at h,fun r q r' h=>by simp[pNot]at h,fun r q r' h=>by simp[pPrim]at h⟩
 | n+1=>by
  obtain⟨h1,h2,h3,h4,h5,h6⟩:=nodes_all st n
  have app:∀ (acc:List Qy) (q:Qy),nodesL (acc++[q])+(acc++[q]).length=nodesL acc+acc.length+nodes q+1:=fun acc q=>by
   rw[nodesL_app,Ag];simp only[nodesL,AH,Bw];omega
  refine⟨fun r q r' h=>?_,fun acc r q r' hne h=>?_,fun r q r' h=>?_,fun acc r q r' hne h=>?_,fun r q r' h=>?_,fun r q r' h=>?_⟩
  ·unfold pOr at h;split at h
   ·cases h
   ·rename_i q1 r1 he;have a:=h3 r q1 r1 he;have b:=h2 [q1] r1 q r' oZ h;simp only[nodesL,AH,Bw]at b;omega
  ·unfold lOr at h;split at h
   ·rename_i ho;have ht:=zrj;split at h
    ·cases h
    ·rename_i q1 r1 he;have a:=h3 r.tail q1 r1 he;have b:=h2 (acc++[q1]) r1 q r' oZ h;rw[app]at b;omega
   ·injection h with h;injection h with h h';rw[<- h,<- h'];have:=joined_nodes 6 acc hne;omega
  ·unfold pAnd at h;split at h
   ·cases h
   ·rename_i q1 r1 he;have a:=h5 r q1 r1 he;have b:=h4 [q1] r1 q r' oZ h;simp only[nodesL,AH,Bw]at b;omega
  ·unfold lAnd at h;split at h
   ·rename_i ho;have ht:=zrj;split at h
    ·cases h
    ·rename_i q1 r1 he;have a:=h5 r.tail q1 r1 he;have b:=h4 (acc++[q1]) r1 q r' oZ h;rw[app]at b;omega
   ·split at h
    ·split at h
     ·cases h
     ·rename_i q1 r1 he;have a:=h5 r q1 r1 he;have b:=h4 (acc++[q1]) r1 q r' oZ h;rw[app]at b;omega
    ·injection h with h;injection h with h h';rw[<- h,<- h'];have:=joined_nodes 5 acc hne;omega
  ·unfold pNot at h;split at h
   ·cases h
   ·rename_i q1 r1 he;have a:=h6 r q1 r1 he;split at h
    ·rename_i ho;have ht:=zrj;split at h
     ·cases h
     ·rename_i q2 r2 he2;have b:=h6 _ _ _ he2;injection h with h;injection h with h h';rw[<- h,<- h'];simp only[nodes,nodesL];omega
    ·injection h with h;injection h with h h';rw[<- h,<- h'];exact a
  ·unfold pPrim at h;split at h
   ·rename_i hk;have ht:=(tail_eats (r:=r) (by rw[hk];decide)).2;split at h
    ·cases h
    ·rename_i q1 r1 he;have a:=h1 _ _ _ he;split at h
     ·rename_i h41;have hc:=(tail_eats (r:=r1) (by rw[h41];decide)).2;injection h with h;injection h with h h';rw[<- h,<- h'];omega
     ·cases h
   ·exact Nb.leaf (eats_flat st r) (flat_leaf st r) q r' h
end Qr
theorem Qr.ext_eq (s:ByteArray) (a b:Nat):(⟨((s.data.toList.drop a).take (b - a)).toArray⟩:ByteArray)=s.extract a b:=by
 apply ByteArray.ext;apply Array.toList_inj.1;rw[Lib.extract_data]
theorem Tx.own_set {w:Ab}{B e size n:Nat}{v:Value}{xs:List Value}{a:Addr} (ho:w.ownsRow B e size v n xs) (hne:∀ b,v.ownBlock=some b->b≠a.block) (u:Value):(w.setCell a u).ownsRow B e size v n xs:=by
 refine⟨ho.1,?_⟩;rcases ho.2 with h1 | ⟨k,cap,cur,h1,h2,h3,h4⟩
 ·exact .inl h1
 ·exact .inr ⟨k,cap,cur,h1,h2,Tx.blk_far h3 (hne k (by rw[h1];rfl)) u,h4⟩
namespace Qr
def TokOk (r:List Tok):Prop:=∀ t∈r,AE t.t=true/\t.t.length<=1000
theorem TokOk.suf {r r':List Tok} (h:TokOk r) (hs:r' <:+ r):TokOk r':=fun t ht=>h t (hs.subset ht)
def WB (x:PR):Prop:=∀ q r',x=some (q,r')->Wz 1000000 q
theorem words_size {t:By} (hv:AE t=true) (hl:t.length<=1000):∀ x∈wordsB t,x.size<=1000000:=by
 intro x hx;unfold wordsB at hx;rw[List.mem_map]at hx;obtain⟨y,hy,rfl⟩:=hx;rw[Tx.size_mk];have h1:=(Tx.fieldsT_good Tx.sepW (Tx.foldS_valid hv)).2.1;have h2:=Tx.foldS_len hv
 have h3:∀ (l:List By) (y:By),y∈l->y.length<=Lib.lens l:=by
  intro l
  induction l with
  | nil=>intro y h;simp at h
  | cons z r ih =>
   intro y h;have e:Lib.lens (z::r)=z.length+Lib.lens r:=by simp[Lib.lens]
   rw[AL]at h;rcases h with rfl | h
   ·omega
   ·have:=ih y h;omega
 have h4:=h3 _ y hy;unfold Tx.words at h4;omega
theorem leaf_w (o f a b:Int) (ws:List ByteArray) (h:∀ x∈ws,x.size<=1000000):Wz 1000000 (.mk o f ws a b []):=.mk h (fun k hk=>by simp at hk)
theorem years_w (st:Bool) (r:List Tok):WB (pYears st r):=by
 intro q r' h;unfold pYears at h
 repeat' split at h
 all_goals first | (cases h;done) | (injection h with h;injection h with h _;rw[<- h];exact leaf_w _ _ _ _ _ UX)
theorem term_w (st:Bool) (f:Int) (r:List Tok) (hr:TokOk r):WB (pTerm st f r):=by
 intro q r' h;by_cases hw:word0 r=true
 ·have hok:=hr _ (lk_mem (word0_ne hw));unfold pTerm at h
  repeat' split at h
  all_goals first | (cases h;done) | (injection h with h;injection h with h _;rw[<- h];exact leaf_w _ _ _ _ _ (words_size hok.1 hok.2))
 ·unfold pTerm at h;rw[if_pos qZ]at h;cases h
theorem flat_w (st:Bool) (r:List Tok) (hr:TokOk r):WB (pFlat st r):=by
 intro q r' h;have h2:TokOk r.tail.tail:=hr.suf ((F8 _).trans (F8 _));unfold pFlat at h
 repeat' split at h
 all_goals first | (cases h;done) | exact years_w _ _ _ _ h | exact term_w _ _ _ h2 _ _ h | exact term_w _ _ _ hr _ _ h
theorem joined_w (op:Int) (l:List Qy) (h:∀ k∈l,Wz 1000000 k):Wz 1000000 (joined op l):=by
 by_cases h1:l.length=1
 ·match l,h1 with
  | [x],_=>exact h x oZ
 ·rw[joined_many op l h1];refine .mk UX (fun k hk=>?_);rw[List.mem_flatMap]at hk;obtain⟨y,hy,hk⟩:=hk;unfold flat at hk;have hy2:=h y hy;split at hk
  ·cases hy2 with
   | mk _ h4=>exact h4 k hk
  ·rw[B9]at hk;rw[hk];exact hy2
theorem wz_all (st:Bool):∀ n,(∀ r,TokOk r->WB (pOr st n r))/\(∀ acc r,TokOk r->(∀ k∈acc,Wz 1000000 k)->WB (lOr st n acc r))/\(∀ r,TokOk r->WB (pAnd st n r))/\(∀ acc r,TokOk r->(∀ k∈acc,Wz 1000000 k)->WB (lAnd st n acc r))/\(∀ r,TokOk r->WB (pNot st n r))/\(∀ r,TokOk r->WB (pPrim st n r))
 | 0=>⟨fun r _ q r' h=>by simp[pOr]at h,fun _ _ _ _ q r' h=>by simp[lOr]at h,fun r _ q r' h=>by simp[pAnd]at h,fun _ _ _ _ q r' h=>by simp[lAnd]at h,fun r _ q r' h=>by simp[pNot]at h,fun r _ q r' h=>by simp[pPrim]at h⟩
 | n+1=>by
  obtain⟨h1,h2,h3,h4,h5,h6⟩:=wz_all st n;obtain⟨e1,_,e3,_,e5,e6⟩:=eats_all st n;have one:∀ q,Wz 1000000 q->∀ k∈[q],Wz 1000000 k:=fun q h k hk=>by rw[B9]at hk;rw[hk];exact h
  have app:∀ (acc:List Qy) q,(∀ k∈acc,Wz 1000000 k)->Wz 1000000 q->∀ k∈acc++[q],Wz 1000000 k:=fun acc q h hq k hk=>by
   rw[List.mem_append,B9]at hk;rcases hk with hk | rfl
   ·exact h k hk
   ·exact hq
  refine⟨fun r hr q r' h=>?_,fun acc r hr ha q r' h=>?_,fun r hr q r' h=>?_,fun acc r hr ha q r' h=>?_,fun r hr q r' h=>?_,fun r hr q r' h=>?_⟩
  ·unfold pOr at h;split at h
   ·cases h
   ·rename_i q1 r1 he;exact h2 [q1] r1 (hr.suf (e3 r q1 r1 he).1) (one _ (h3 r hr q1 r1 he)) q r' h
  ·unfold lOr at h;split at h
   ·split at h
    ·cases h
    ·rename_i q1 r1 he;have ht:=hr.suf (F8 r);exact h2 _ r1 (ht.suf (e3 _ q1 r1 he).1) (app _ _ ha (h3 _ ht q1 r1 he)) q r' h
   ·injection h with h;injection h with h _;rw[<- h];exact joined_w _ _ ha
  ·unfold pAnd at h;split at h
   ·cases h
   ·rename_i q1 r1 he;exact h4 [q1] r1 (hr.suf (e5 r q1 r1 he).1) (one _ (h5 r hr q1 r1 he)) q r' h
  ·unfold lAnd at h;split at h
   ·split at h
    ·cases h
    ·rename_i q1 r1 he;have ht:=hr.suf (F8 r);exact h4 _ r1 (ht.suf (e5 _ q1 r1 he).1) (app _ _ ha (h5 _ ht q1 r1 he)) q r' h
   ·split at h
    ·split at h
     ·cases h
     ·rename_i q1 r1 he;exact h4 _ r1 (hr.suf (e5 _ q1 r1 he).1) (app _ _ ha (h5 _ hr q1 r1 he)) q r' h
    ·injection h with h;injection h with h _;rw[<- h];exact joined_w _ _ ha
  ·unfold pNot at h;split at h
   ·cases h
   ·rename_i q1 r1 he;have hr1:=hr.suf (e6 r q1 r1 he).1;split at h
    ·split at h
     ·cases h
     ·rename_i q2 r2 he2;injection h with h;injection h with h _;rw[<- h];exact .mk UX (app [q1] q2 (one _ (h6 r hr q1 r1 he)) (h6 _ (hr1.suf (F8 _)) q2 r2 he2))
    ·injection h with h;injection h with h _;rw[<- h];exact h6 r hr q1 r1 he
  ·unfold pPrim at h;split at h
   ·split at h
    ·cases h
    ·rename_i q1 r1 he;split at h
     ·injection h with h;injection h with h _;rw[<- h];exact h1 _ (hr.suf (F8 _)) q1 r1 he
     ·cases h
   ·exact flat_w st r hr q r' h
theorem toks_ok:∀ (n:Nat) (g:Bool) (l:By),l.length<=n->l.length<=1000->AE l=true->TokOk (toks n g l)/\(toks n g l).length<=l.length
 | 0,g,l,h,_,_=>by
  have:=List.eq_nil_of_length_eq_zero (Nat.le_zero.1 h);subst this;exact⟨fun t ht=>by simp[toks]at ht,by simp[toks]⟩
 | n+1,g,[],_,_,_=>⟨fun t ht=>by simp[toks]at ht,by simp[toks]⟩
 | n+1,g,c::r,h,hl,hv=>by
  simp only[AH]at h hl;have asc:∀ c:UInt8,(c=32\/c=40\/c=41\/c=58\/c=42\/c=34)->32<=c.toNat/\c.toNat<127:=fun c hc=>by rcases hc with rfl | rfl | rfl | rfl | rfl | rfl <;> decide
  have tl:∀ c:UInt8,(32<=c.toNat/\c.toNat<127)->∀ (a b:By),AE (a++c::b)=true->AE a=true/\AE b=true:=fun c hc a b h=>by
   have h1:=Hd.valid_cut hc _ a b (Ad _) h;exact⟨h1.1,Hd.valid_tail [c] b (fun x hx=>by rw[B9]at hx;rw[hx];exact hc) h1.2⟩
  have cons:∀ (t:Tok) (x:By) (g:Bool),(AE t.t=true/\t.t.length<=1000)->x.length<=r.length->AE x=true->TokOk (t::toks n g x)/\(t::toks n g x).length<=(c::r).length:=fun t x g ht hx hvx=>by
   have ih:=toks_ok n g x oQ oQ hvx;refine⟨fun y hy=>?_,by simp only[AH];omega⟩;rw[AL]at hy;rcases hy with rfl | hy
   ·exact ht
   ·exact ih.1 y hy
  unfold toks;by_cases h32:c=32
  ·rw[if_pos h32];have ih:=toks_ok n false r oQ oQ (tl c (asc c (.inl h32)) [] r hv).2;exact⟨ih.1,by simp only[AH];omega⟩
  ·rw[if_neg h32];by_cases hs:c=40\/c=41\/c=58\/c=42
   ·rw[if_pos hs];exact cons _ r true ⟨rfl,oZ⟩ (Ad _) (tl c (asc c (by rcases hs with h | h | h | h <;> simp[h])) [] r hv).2
   ·rw[if_neg hs];by_cases h34:c=34
    ·rw[if_pos h34];have hvr:=(tl c (asc c (by simp[h34])) [] r hv).2;cases hc:Sp.cut 34 r with
     | none=>exact cons _ r true ⟨rfl,oZ⟩ (Ad _) hvr
     | some p =>
      obtain⟨x,y⟩:=p;have hlen:=Sp.cut_len hc;have hv2:=hvr;rw[(Sp.cut_eq hc).1]at hv2;have:=tl 34 oX x y hv2;exact cons _ y true ⟨this.1,by simp only;omega⟩ oQ this.2
    ·rw[if_neg h34];have hrl:=run_le r
     have hrd:run r++r.drop (run r).length=r:=by
      have e1:=zmc
      have e2:r.drop (run r).length=r.dropWhile fun c=>!sgn c:=by
       conv=>lhs;rw[<- e1]
       unfold run;rw[List.drop_append_of_le_length (Nat.le_of_eq (by rw[e1])),e1,List.drop_length,C8]
      rw[e2];exact e1
     have hsplit:c::r=(c::run r)++r.drop (run r).length:=by rw[List.cons_append,hrd]
     have hv2:=hv;rw[hsplit]at hv2
     have hb:AE (c::run r)=true/\AE (r.drop (run r).length)=true:=by
      cases hd:r.drop (run r).length with
      | nil =>
       rw[hd,List.append_nil]at hv2;exact⟨hv2,rfl⟩
      | cons d t =>
       rw[hd]at hv2
       have hsd:sgn d=true:=by
        have e1:=zmc
        have e2:r.dropWhile (fun c=>!sgn c)=d::t:=by
         have e3:=hrd;unfold run at e3 hd;rw[<- hd];exact List.append_cancel_left (e1.trans e3.symm)
        have:=List.head?_dropWhile_not (fun c=>!sgn c) r;rw[e2]at this;simpa using this
       have hda:32<=d.toNat/\d.toNat<127:=by
        apply asc;unfold sgn at hsd;simp only[Bool.or_eq_true,beq_iff_eq]at hsd;rcases hsd with ((((h | h) | h) | h) | h) | h <;> simp[h]
       have h1:=tl d hda (c::run r) t hv2;refine⟨h1.1,?_⟩
       have:AE ([]++d::t)=true:=by
        rw[C8];have hva:=Rc.valid_append (c::run r).length (c::run r) (d::t) (Ad _) h1.1;rw[<- hva];exact hv2
       simpa using this
     exact cons ⟨114,c::run r,g⟩ _ true ⟨hb.1,by simp only[AH];omega⟩ aX hb.2
abbrev q0:Qy:=.mk 0 0 [] 0 0 []
abbrev t0:QT:=⟨0,0,none,0,0,0,0,none,0,0⟩
theorem q0_c (B:Nat) (w:Ab):QC B w q0 (encQ t0):=QC.of_kids (ws:=[]) (ks:=[]) (.inl ⟨rfl,_,_,rfl⟩) (fun h=>absurd rfl h) (KA.nil _ _)
theorem parse_long {s:By} (h:1000<s.length):parse s=(q0,4):=by unfold parse;rw[if_pos h]
theorem parse_bad {s:By} (h:¬ 1000<s.length) (hv:AE s=false):parse s=(q0,3):=by unfold parse;rw[if_neg h,if_pos hv]
end Qr
theorem Qr.tokF_ok {s:ByteArray} (hl:¬ 1000<s.size) (hv:AE s.data.toList=true):Qr.TokOk (Qr.tokens s.data.toList)/\(Qr.tokens s.data.toList).length<=1000:=by
 have h:=Qr.toks_ok s.data.toList.length false s.data.toList (Ad _) aK hv;rw[<- Lib.size_eq]at h;unfold Qr.tokens Qr.tokF;rw[<- Lib.size_eq];exact⟨h.1,oQ⟩
end Go.Proofs.YtlakomilichhnaaGreatDoor
