/- Parts. -/
import Derived.Test.YtlakomilichhnaaGreatDoorROt
namespace Go.Proofs.YtlakomilichhnaaGreatDoor
set_option maxRecDepth 100000
open Go.RowKit
open Bool renaming and_eq_true->Bu
open List renaming eq_nil_of_length_eq_zero->Ar,length_cons->AH,suffix_refl->Bv
open Nat renaming le_refl->Ad
open Option renaming none->A0,some->A3
namespace Qr
structure Tok where
 k:UInt8
 t:By
 g:Bool
def sgn (c:UInt8):Bool:=c == 32||c == 40||c == 41||c == 58||c == 42||c == 34
def run (l:By):By:=l.takeWhile fun c=>!sgn c
def toks:Nat->Bool->By->List Tok
 | 0,_,_=>[]
 | _+1,_,[]=>[]
 | n+1,g,c::r =>
  if c=32 then toks n false r
  else if c=40\/c=41\/c=58\/c=42 then ⟨c,[],g⟩::toks n true r
  else if c=34 then match Sp.cut 34 r with
   | some (x,y)=>⟨113,x,g⟩::toks n true y
   | none=>⟨34,[],g⟩::toks n true r
  else ⟨114,c::run r,g⟩::toks n true (r.drop (run r).length)
theorem run_le (l:By):(run l).length<=l.length:=by unfold run;exact (List.takeWhile_sublist _).length_le
theorem toks_fuel:∀ (n m:Nat) (g:Bool) (l:By),l.length<=n->l.length<=m->toks n g l=toks m g l
 | 0,0,_,_,_,_=>rfl
 | 0,m+1,g,l,h,_=>by
  have:=Ar (Nat.le_zero.1 h);subst this;simp[toks]
 | n+1,0,g,l,_,h=>by
  have:=Ar (Nat.le_zero.1 h);subst this;simp[toks]
 | n+1,m+1,g,[],_,_=>by simp[toks]
 | n+1,m+1,g,c::r,h1,h2=>by
  simp only[AH]at h1 h2;have e:∀ (g:Bool) (x:By),x.length<=r.length->toks n g x=toks m g x:=fun g x hx=>toks_fuel n m g x oQ oQ;unfold toks;rw[e _ _ (Ad _),e _ _ (Ad _),e _ (r.drop (run r).length) aX];cases hc:Sp.cut 34 r with
  | none=>rfl
  | some p =>
   obtain⟨x,y⟩:=p;have:=Sp.cut_len hc;simp only;rw[e _ y oQ]
def tokF (g:Bool) (l:By):List Tok:=toks l.length g l
def tokens (l:By):List Tok:=tokF false l
theorem tokF_nil (g:Bool):tokF g []=[]:=rfl
theorem tokF_cons (g:Bool) (c:UInt8) (r:By):tokF g (c::r) =
  if c=32 then tokF false r
  else if c=40\/c=41\/c=58\/c=42 then ⟨c,[],g⟩::tokF true r
  else if c=34 then match Sp.cut 34 r with
   | some (x,y)=>⟨113,x,g⟩::tokF true y
   | none=>⟨34,[],g⟩::tokF true r
  else ⟨114,c::run r,g⟩::tokF true (r.drop (run r).length):=by
 unfold tokF;rw[AH,toks];rw[toks_fuel r.length (r.drop (run r).length).length true (r.drop (run r).length) aX (Ad _)];cases hc:Sp.cut 34 r with
 | none=>rfl
 | some p =>
  obtain⟨x,y⟩:=p;have:=Sp.cut_len hc;simp only;rw[toks_fuel r.length y.length true y oQ (Ad _)]
def lk (r:List Tok):Tok:=r.headD ⟨0,[],false⟩
def lk1 (r:List Tok):Tok:=lk r.tail
def orB:By:=[79,82]
def andB:By:=[65,78,68]
def notB:By:=[78,79,84]
def isOp (s:By) (r:List Tok):Bool:=(lk r).k == 114&&(lk r).t == s
def anyOp (t:Tok):Bool:=t.k == 114&&(t.t == orB||t.t == andB||t.t == notB)
def word0 (r:List Tok):Bool:=(lk r).k == 113||((lk r).k == 114&&!anyOp (lk r))
def begins (r:List Tok):Bool:=(lk r).k == 40||word0 r
def glue (c:UInt8) (r:List Tok):Bool:=(lk r).k == 114&&(lk1 r).k == c&&(lk1 r).g
def joined (op:Int):List Qy->Qy
 | [x]=>x
 | l=>.mk op 0 [] 0 0 (l.flatMap fun k=>if k.op=op then k.ks else [k])
def wordsB (t:By):List ByteArray:=(Tx.words t).map fun x=>⟨x.toArray⟩
abbrev PR:=Option (Qy × List Tok)
def yearN (x:By):Option Nat:=if 4<x.length then A0 else Nm.num x
def pYears (st:Bool) (r:List Tok):PR :=
 if (st&&(lk1 r).k == 58&&(lk1 r).g)=true then A0
 else if (lk r).k≠114 then A0
 else match Sp.cut 45 (lk r).t with
  | none=>A0
  | some (x,y)=>match yearN x,yearN y with
   | some m,A3 n=>A3 (.mk 4 0 [] m n [],r.tail)
   | _,_=>A0
def pTerm (st:Bool) (f:Int) (r:List Tok):PR :=
 if word0 r=false then A0
 else if (st&&glue 58 r)=true then A0
 else if Tx.words (lk r).t=[] then A0
 else if glue 42 r=true then (if 1<(Tx.words (lk r).t).length then A0 else A3 (.mk 2 f (wordsB (lk r).t) 0 0 [],r.tail.tail))
 else if (lk r).k=114/\(Tx.words (lk r).t).length=1 then A3 (.mk 1 f (wordsB (lk r).t) 0 0 [],r.tail)
 else A3 (.mk 3 f (wordsB (lk r).t) 0 0 [],r.tail)
def fieldOf (t:By):Option Int:=if t=[97,110,121] then A3 0 else if t=[116,105] then A3 1 else if t=[97,117] then A3 2 else if t=[115,117] then A3 3 else if t=[110,117] then A3 4 else A0
def pFlat (st:Bool) (r:List Tok):PR :=
 if word0 r=false then A0
 else if glue 58 r=true then
  if (lk r.tail.tail).g=false then A0
  else if word0 r.tail.tail=false then A0
  else if (lk r).t=[121,101,97,114] then pYears st r.tail.tail
  else match fieldOf (lk r).t with
   | none=>A0
   | some f=>pTerm st f r.tail.tail
 else pTerm st 0 r
mutual
def pOr (st:Bool):Nat->List Tok->PR
 | 0,_=>A0
 | n+1,r=>match pAnd st n r with
  | none=>A0
  | some (q,r')=>lOr st n [q] r'
def lOr (st:Bool):Nat->List Qy->List Tok->PR
 | 0,_,_=>A0
 | n+1,acc,r=>if isOp orB r=true then match pAnd st n r.tail with
   | none=>A0
   | some (q,r')=>lOr st n (acc++[q]) r'
  else A3 (joined 6 acc,r)
def pAnd (st:Bool):Nat->List Tok->PR
 | 0,_=>A0
 | n+1,r=>match pNot st n r with
  | none=>A0
  | some (q,r')=>lAnd st n [q] r'
def lAnd (st:Bool):Nat->List Qy->List Tok->PR
 | 0,_,_=>A0
 | n+1,acc,r=>if isOp andB r=true then match pNot st n r.tail with
   | none=>A0
   | some (q,r')=>lAnd st n (acc++[q]) r'
  else if begins r=true then match pNot st n r with
   | none=>A0
   | some (q,r')=>lAnd st n (acc++[q]) r'
  else A3 (joined 5 acc,r)
def pNot (st:Bool):Nat->List Tok->PR
 | 0,_=>A0
 | n+1,r=>match pPrim st n r with
  | none=>A0
  | some (q,r')=>if isOp notB r'=true then match pPrim st n r'.tail with
    | none=>A0
    | some (q2,r2)=>A3 (.mk 7 0 [] 0 0 [q,q2],r2)
   else A3 (q,r')
def pPrim (st:Bool):Nat->List Tok->PR
 | 0,_=>A0
 | n+1,r=>if (lk r).k=40 then match pOr st n r.tail with
   | none=>A0
   | some (q,r')=>if (lk r').k=41 then A3 (q,r'.tail) else A0
  else pFlat st r
end
def parse (s:By):Qy × Int :=
 if 1000<s.length then (.mk 0 0 [] 0 0 [],4)
 else if Tx.valid s=false then (.mk 0 0 [] 0 0 [],3)
 else match pOr true (8*(tokens s).length+8) (tokens s) with
  | some (q,[])=>if rightE q=0 then (q,0) else (.mk 0 0 [] 0 0 [],rightE q)
  | _=>(.mk 0 0 [] 0 0 [],3)
def Eats (r:List Tok) (x:PR):Prop:=∀ q r',x=A3 (q,r')->r' <:+ r/\r'.length<r.length
theorem tail_eats {r:List Tok} (h:(lk r).k≠0):r.tail <:+ r/\r.tail.length<r.length:=by
 cases r with
 | nil=>exact absurd rfl h
 | cons t l=>exact⟨List.suffix_cons t l,oZ⟩
theorem tail2_eats {r:List Tok} (h:(lk r).k≠0):r.tail.tail <:+ r/\r.tail.tail.length<r.length:=by
 have h1:=tail_eats h;exact⟨(List.tail_suffix _).trans h1.1,by have:=List.length_tail (l:=r.tail);omega⟩
theorem word0_ne {r:List Tok} (h:word0 r=true):(lk r).k≠0:=by
 intro h0;unfold word0 anyOp at h;rw[h0]at h;simp at h
theorem begins_ne {r:List Tok} (h:begins r=true):(lk r).k≠0:=by
 intro h0;unfold begins word0 anyOp at h;rw[h0]at h;simp at h
theorem isOp_ne {r:List Tok}{s:By} (h:isOp s r=true):(lk r).k≠0:=by
 intro h0;unfold isOp at h;rw[h0]at h;simp at h
theorem Eats.none (r:List Tok):Eats r A0:=fun q r' h=>by cases h
theorem Eats.some {r r':List Tok}{q:Qy} (h:r' <:+ r/\r'.length<r.length):Eats r (A3 (q,r')):=fun q2 r2 e=>by injection e with e;injection e with _ e;rw[<- e];exact h
theorem Eats.trans {r r1:List Tok}{x:PR} (h:r1 <:+ r) (k:Eats r1 x):Eats r x:=fun q r' e=>⟨(k q r' e).1.trans h,Nat.lt_of_lt_of_le (k q r' e).2 h.length_le⟩
theorem eats_years (st:Bool) (r:List Tok) (hw:word0 r=true):Eats r (pYears st r):=by
 unfold pYears
 repeat' split
 all_goals first | exact .none _ | exact .some (tail_eats (word0_ne hw))
theorem eats_term (st:Bool) (f:Int) (r:List Tok):Eats r (pTerm st f r):=by
 unfold pTerm
 repeat' split
 all_goals first | exact .none _ | exact .some (tail_eats (word0_ne zsx)) | exact .some (tail2_eats (word0_ne zsx))
theorem eats_flat (st:Bool) (r:List Tok):Eats r (pFlat st r):=by
 unfold pFlat;split
 ·exact .none _
 ·rename_i hw;have h2:=tail2_eats (word0_ne qZ)
  repeat' split
  all_goals first | exact .none _ | exact .trans h2.1 (eats_years st _ (by simpa using ‹¬ word0 r.tail.tail=false›)) | exact .trans h2.1 (eats_term st _ _) | exact eats_term st _ _
theorem eats_all (st:Bool):∀ n,(∀ r,Eats r (pOr st n r))/\(∀ acc r q r',lOr st n acc r=A3 (q,r')->r' <:+ r)/\(∀ r,Eats r (pAnd st n r))/\(∀ acc r q r',lAnd st n acc r=A3 (q,r')->r' <:+ r)/\(∀ r,Eats r (pNot st n r))/\(∀ r,Eats r (pPrim st n r))
 | 0=>⟨fun r=>.none _,fun _ _ _ _ h=>by simp[lOr]at h,fun r=>.none _,fun _ _ _ _ h=>by simp[lAnd]at h,fun r=>.none _,fun r=>.none _⟩
 | n+1=>by
  obtain⟨h1,h2,h3,h4,h5,h6⟩:=eats_all st n;refine⟨fun r=>?_,fun acc r q r' h=>?_,fun r=>?_,fun acc r q r' h=>?_,fun r=>?_,fun r=>?_⟩
  ·unfold pOr;split
   ·exact .none _
   ·rename_i q r1 he;have ha:=h3 r q r1 he;exact fun q2 r2 e=>⟨(h2 _ _ _ _ e).trans ha.1,Nat.lt_of_le_of_lt (h2 _ _ _ _ e).length_le ha.2⟩
  ·unfold lOr at h;split at h
   ·rename_i ho;split at h
    ·cases h
    ·rename_i q1 r1 he;exact ((h2 _ _ _ _ h).trans (h3 _ _ _ he).1).trans (tail_eats (isOp_ne ho)).1
   ·injection h with h;injection h with _ h;rw[h];exact Bv _
  ·unfold pAnd;split
   ·exact .none _
   ·rename_i q r1 he;have ha:=h5 r q r1 he;exact fun q2 r2 e=>⟨(h4 _ _ _ _ e).trans ha.1,Nat.lt_of_le_of_lt (h4 _ _ _ _ e).length_le ha.2⟩
  ·unfold lAnd at h;split at h
   ·rename_i ho;split at h
    ·cases h
    ·rename_i q1 r1 he;exact ((h4 _ _ _ _ h).trans (h5 _ _ _ he).1).trans (tail_eats (isOp_ne ho)).1
   ·split at h
    ·split at h
     ·cases h
     ·rename_i q1 r1 he;exact (h4 _ _ _ _ h).trans (h5 _ _ _ he).1
    ·injection h with h;injection h with _ h;rw[h];exact Bv _
  ·unfold pNot;split
   ·exact .none _
   ·rename_i q r1 he;have ha:=h6 r q r1 he;split
    ·rename_i ho;split
     ·exact .none _
     ·rename_i q2 r2 he2;have hb:=h6 _ _ _ he2;have hc:=tail_eats (isOp_ne ho);exact .some ⟨(hb.1.trans hc.1).trans ha.1,oQ⟩
    ·exact .some ha
  ·unfold pPrim;split
   ·rename_i hk;have ht:=tail_eats (r:=r) (by rw[hk];decide);split
    ·exact .none _
    ·rename_i q r1 he;have ha:=h1 _ _ _ he;split
     ·rename_i h41;have hc:=tail_eats (r:=r1) (by rw[h41];decide);exact .some ⟨(hc.1.trans ha.1).trans ht.1,oQ⟩
     ·exact .none _
   ·exact eats_flat st r
open Go.Lib
def Stk (r:List Tok):Prop:=(lk r).k=58/\(lk r).g=true
theorem Stk.op {r:List Tok} (h:Stk r) (s:By):isOp s r=false:=by unfold isOp;rw[h.1];rfl
theorem Stk.beg {r:List Tok} (h:Stk r):begins r=false:=by unfold begins word0;rw[h.1];rfl
def Two (x y:PR):Prop:=y=x\/(x=A0/\∃ q r,y=A3 (q,r)/\Stk r)
theorem two_years (l:List Tok):Two (pYears true l) (pYears false l):=by
 unfold pYears;by_cases h:((lk1 l).k == 58&&(lk1 l).g)=true
 ·rw[if_pos yV,if_neg (show ¬ (false&&(lk1 l).k == 58&&(lk1 l).g)=true by simp)];split
  ·exact .inl rfl
  ·split
   ·exact .inl rfl
   ·split
    ·refine .inr ⟨rfl,_,_,rfl,?_⟩;unfold lk1 at h;rw[Bu,beq_iff_eq]at h;exact h
    ·exact .inl rfl
 ·rw[if_neg yV,if_neg (show ¬ (false&&(lk1 l).k == 58&&(lk1 l).g)=true by simp)];exact .inl rfl
theorem two_term (f:Int) (l:List Tok):Two (pTerm true f l) (pTerm false f l):=by
 unfold pTerm;by_cases hw:word0 l=false
 ·rw[if_pos hw,if_pos hw];exact .inl rfl
 ·rw[if_neg hw,if_neg hw];by_cases h:glue 58 l=true
  ·rw[if_pos yV,if_neg (show ¬ (false&&glue 58 l)=true by simp)]
   have hst:Stk l.tail:=by
    unfold glue lk1 at h;simp only[Bu,beq_iff_eq]at h;exact⟨h.1.2,h.2⟩
   have h42:glue 42 l=false:=by
    unfold glue;rw[show (lk1 l).k=58 from hst.1];simp
   rw[if_neg (show ¬ glue 42 l=true by rw[h42];simp)];split
   ·exact .inl rfl
   ·split
    ·exact .inr ⟨rfl,_,_,rfl,hst⟩
    ·exact .inr ⟨rfl,_,_,rfl,hst⟩
  ·rw[if_neg yV,if_neg (show ¬ (false&&glue 58 l)=true by simp)];exact .inl rfl
theorem two_flat (l:List Tok):Two (pFlat true l) (pFlat false l):=by
 unfold pFlat
 repeat' split
 all_goals first | exact .inl rfl | exact two_years _ | exact two_term _ _
theorem two_all:∀ n,
  (∀ l,Two (pOr true n l) (pOr false n l))/\(∀ acc l,Two (lOr true n acc l) (lOr false n acc l)) /\
  (∀ l,Two (pAnd true n l) (pAnd false n l))/\(∀ acc l,Two (lAnd true n acc l) (lAnd false n acc l)) /\
  (∀ l,Two (pNot true n l) (pNot false n l))/\(∀ l,Two (pPrim true n l) (pPrim false n l))
 | 0=>⟨fun _=>by simp[pOr,Two],fun _ _=>by simp[lOr,Two],fun _=>by simp[pAnd,Two],fun _ _=>by simp[lAnd,Two],fun _=>by simp[pNot,Two],fun _=>by simp[pPrim,Two]⟩
 | n+1=>by
  obtain⟨h1,h2,h3,h4,h5,h6⟩:=two_all n
  have s2:∀ acc r,Stk r->lOr false n acc r=A0\/∃ q,lOr false n acc r=A3 (q,r):=fun acc r hr=>by
   cases n with
   | zero=>exact .inl (by rw[lOr])
   | succ k=>exact .inr ⟨_,by rw[lOr,if_neg (by rw[hr.op];simp)]⟩
  have s4:∀ acc r,Stk r->lAnd false n acc r=A0\/∃ q,lAnd false n acc r=A3 (q,r):=fun acc r hr=>by
   cases n with
   | zero=>exact .inl (by rw[lAnd])
   | succ k=>exact .inr ⟨_,by rw[lAnd,if_neg (by rw[hr.op];simp),if_neg (by rw[hr.beg];simp)]⟩
  have goOr : ∀ (acc : Qy -> List Qy) l, Two (match pAnd true n l with
    | none=>A0
    | some (q,r')=>lOr true n (acc q) r') (match pAnd false n l with
    | none=>A0
    | some (q,r')=>lOr false n (acc q) r'):=fun acc l=>by
   rcases h3 l with h | ⟨h,q,r,h9,hs⟩
   ·rw[h];split
    ·exact .inl rfl
    ·exact h2 _ _
   ·rw[h,h9];simp only;rcases s2 (acc q) r hs with h8 | ⟨q2,h8⟩
    ·rw[h8];exact .inl rfl
    ·rw[h8];exact .inr ⟨rfl,_,_,rfl,hs⟩
  have goAnd : ∀ (acc : Qy -> List Qy) l, Two (match pNot true n l with
    | none=>A0
    | some (q,r')=>lAnd true n (acc q) r') (match pNot false n l with
    | none=>A0
    | some (q,r')=>lAnd false n (acc q) r'):=fun acc l=>by
   rcases h5 l with h | ⟨h,q,r,h9,hs⟩
   ·rw[h];split
    ·exact .inl rfl
    ·exact h4 _ _
   ·rw[h,h9];simp only;rcases s4 (acc q) r hs with h8 | ⟨q2,h8⟩
    ·rw[h8];exact .inl rfl
    ·rw[h8];exact .inr ⟨rfl,_,_,rfl,hs⟩
  refine⟨fun l=>?_,fun acc l=>?_,fun l=>?_,fun acc l=>?_,fun l=>?_,fun l=>?_⟩
  ·unfold pOr;exact goOr _ l
  ·unfold lOr;split
   ·exact goOr _ _
   ·exact .inl rfl
  ·unfold pAnd;exact goAnd _ l
  ·unfold lAnd;split
   ·exact goAnd _ _
   ·split
    ·exact goAnd _ _
    ·exact .inl rfl
  ·unfold pNot;rcases h6 l with h | ⟨h,q,r,h9,hs⟩
   ·rw[h];split
    ·exact .inl rfl
    ·rename_i q1 r1 _;split
     ·rcases h6 r1.tail with h | ⟨h,q,r,h9,hs⟩
      ·rw[h];exact .inl rfl
      ·rw[h,h9];exact .inr ⟨rfl,_,_,rfl,hs⟩
     ·exact .inl rfl
   ·rw[h,h9];simp only;rw[if_neg (by rw[hs.op];simp)];exact .inr ⟨rfl,_,_,rfl,hs⟩
  ·unfold pPrim;split
   ·rcases h1 l.tail with h | ⟨h,q,r,h9,hs⟩
    ·rw[h];exact .inl rfl
    ·rw[h,h9];simp only;rw[if_neg (by rw[hs.1];decide)];exact .inl rfl
   ·exact two_flat l
theorem parse_ref (s:By):parse s=if 1000<s.length then (.mk 0 0 [] 0 0 [],4)
 else if Tx.valid s=false then (.mk 0 0 [] 0 0 [],3)
 else match pOr false (8*(tokens s).length+8) (tokens s) with
  | some (q,[])=>if rightE q=0 then (q,0) else (.mk 0 0 [] 0 0 [],rightE q)
  | _=>(.mk 0 0 [] 0 0 [],3):=by
 unfold parse;rcases (two_all (8*(tokens s).length+8)).1 (tokens s) with h | ⟨h,q,r,h9,hs⟩
 ·rw[h]
  try (generalize pOr true (8*(tokens s).length+8) (tokens s)=x;rcases x with _ | ⟨q,_ | ⟨a,b⟩⟩ <;> rfl)
 ·rw[h,h9];cases r with
  | nil=>exact absurd hs.1 oX
  | cons a b=>rfl
def Cln (l r:List Tok):Prop:=∃ p,l=p++r/\∀ t∈p,t.k≠34
theorem Cln.refl (l:List Tok):Cln l l:=⟨[],rfl,oZ⟩
theorem Cln.trans {a b c:List Tok} (h:Cln a b) (k:Cln b c):Cln a c:=by
 obtain⟨p,rfl,hp⟩:=h;obtain⟨q,rfl,hq⟩:=k
 exact⟨p++q,oZ,fun t ht=>by
  rcases List.mem_append.1 ht with ht | ht
  ·exact hp t ht
  ·exact hq t ht⟩
theorem Cln.tail {l:List Tok} (h:(lk l).k≠34):Cln l l.tail:=by
 cases l with
 | nil=>exact .refl _
 | cons a b=>exact⟨[a],rfl,fun t ht=>by rw[List.mem_singleton]at ht;rw[ht];exact h⟩
theorem word0_34 {l:List Tok} (h:word0 l=true):(lk l).k≠34:=by
 intro h0;unfold word0 at h;rw[h0]at h;simp at h
theorem isOp_34 {s:By}{l:List Tok} (h:isOp s l=true):(lk l).k≠34:=by
 intro h0;unfold isOp at h;rw[h0]at h;simp at h
theorem glue_34 {c:UInt8}{l:List Tok} (h:glue c l=true) (hc:c≠34):(lk l.tail).k≠34:=by
 unfold glue lk1 at h;simp only[Bu,beq_iff_eq]at h;rw[h.1.2];exact hc
def Out (l:List Tok) (x:PR):Prop:=∀ q r,x=A3 (q,r)->Cln l r
theorem Out.none (l:List Tok):Out l A0:=fun _ _ h=>by cases h
theorem Out.some {l r:List Tok}{q:Qy} (h:Cln l r):Out l (A3 (q,r)):=fun _ _ e=>by injection e with e;injection e with _ e;rw[<- e];exact h
theorem out_years (st:Bool) (l:List Tok) (hw:word0 l=true):Out l (pYears st l):=by
 unfold pYears
 repeat' split
 all_goals first | exact .none _ | exact .some (.tail (word0_34 hw))
theorem out_term (st:Bool) (f:Int) (l:List Tok):Out l (pTerm st f l):=by
 unfold pTerm;split
 ·exact .none _
 ·rename_i hw;have h1:Cln l l.tail:=.tail (word0_34 qZ);split
  ·exact .none _
  ·split
   ·exact .none _
   ·split
    ·rename_i h42;have h2:Cln l l.tail.tail:=h1.trans (.tail (glue_34 h42 oX));split
     ·exact .none _
     ·exact .some h2
    ·split <;> exact .some h1
theorem out_flat (st:Bool) (l:List Tok):Out l (pFlat st l):=by
 unfold pFlat;split
 ·exact .none _
 ·rename_i hw;have h1:Cln l l.tail:=.tail (word0_34 qZ);split
  ·rename_i h58;have h2:Cln l l.tail.tail:=h1.trans (.tail (glue_34 h58 oX));split
   ·exact .none _
   ·split
    ·exact .none _
    ·rename_i hw2;split
     ·exact fun q r e=>h2.trans (out_years st _ (by simpa using hw2) q r e)
     ·split
      ·exact .none _
      ·exact fun q r e=>h2.trans (out_term st _ _ q r e)
  ·exact out_term st 0 l
theorem out_all (st:Bool):∀ n,
  (∀ l,Out l (pOr st n l))/\(∀ acc l,Out l (lOr st n acc l))/\(∀ l,Out l (pAnd st n l))/\(∀ acc l,Out l (lAnd st n acc l))/\(∀ l,Out l (pNot st n l))/\(∀ l,Out l (pPrim st n l))
 | 0=>⟨fun l=>by rw[pOr];exact .none l,fun _ l=>by rw[lOr];exact .none l,fun l=>by rw[pAnd];exact .none l,fun _ l=>by rw[lAnd];exact .none l,fun l=>by rw[pNot];exact .none l,fun l=>by rw[pPrim];exact .none l⟩
 | n+1=>by
  obtain⟨h1,h2,h3,h4,h5,h6⟩:=out_all st n;refine⟨fun l=>?_,fun acc l=>?_,fun l=>?_,fun acc l=>?_,fun l=>?_,fun l=>?_⟩
  ·unfold pOr;split
   ·exact .none _
   ·rename_i q1 r1 he;exact fun q r e=>(h3 l _ _ he).trans (h2 _ _ q r e)
  ·unfold lOr;split
   ·rename_i ho;split
    ·exact .none _
    ·rename_i q1 r1 he;exact fun q r e=>((Cln.tail (isOp_34 ho)).trans (h3 _ _ _ he)).trans (h2 _ _ q r e)
   ·exact .some (.refl _)
  ·unfold pAnd;split
   ·exact .none _
   ·rename_i q1 r1 he;exact fun q r e=>(h5 l _ _ he).trans (h4 _ _ q r e)
  ·unfold lAnd;split
   ·rename_i ho;split
    ·exact .none _
    ·rename_i q1 r1 he;exact fun q r e=>((Cln.tail (isOp_34 ho)).trans (h5 _ _ _ he)).trans (h4 _ _ q r e)
   ·split
    ·split
     ·exact .none _
     ·rename_i q1 r1 he;exact fun q r e=>(h5 _ _ _ he).trans (h4 _ _ q r e)
    ·exact .some (.refl _)
  ·unfold pNot;split
   ·exact .none _
   ·rename_i q1 r1 he;split
    ·rename_i ho;split
     ·exact .none _
     ·rename_i q2 r2 he2;exact .some (((h6 l _ _ he).trans (.tail (isOp_34 ho))).trans (h6 _ _ _ he2))
    ·exact .some (h6 l _ _ he)
  ·unfold pPrim;split
   ·rename_i hk;split
    ·exact .none _
    ·rename_i q1 r1 he;split
     ·rename_i hc;exact .some (((Cln.tail (by rw[hk];decide)).trans (h1 _ _ _ he)).trans (.tail (by rw[hc];decide)))
     ·exact .none _
   ·exact out_flat st l
theorem open_quote {s:By} (h:(tokens s).any (fun t=>t.k == 34)=true) {n:Nat}{st:Bool}{q:Qy}:pOr st n (tokens s)≠A3 (q,[]):=by
 intro e;obtain⟨p,hp,hc⟩:=(out_all st n).1 _ _ _ e;rw[List.append_nil]at hp;rw[hp]at h;obtain⟨t,ht,hk⟩:=List.any_eq_true.1 h;exact hc t ht qX
end Qr
end Go.Proofs.YtlakomilichhnaaGreatDoor
