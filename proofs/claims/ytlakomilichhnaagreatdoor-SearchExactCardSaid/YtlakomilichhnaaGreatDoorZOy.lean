/- Texts of this seat's, what the claim needs of them. -/
import Derived.Test.YtlakomilichhnaaGreatDoorZOg
namespace Go.Proofs.YtlakomilichhnaaGreatDoor
set_option maxRecDepth 100000
open Go.RowKit
open List renaming eq_nil_of_length_eq_zero→Aw,length_cons→AO,length_drop→AG,suffix_refl→Ek
open Nat renaming le_refl→An
open Option renaming none→A4,some→A2
namespace Qr
structure Tok where
 k:UInt8
 t:By
 g:Bool
def sgn (c:UInt8):Bool:=c == 32||c == 40||c == 41||c == 58||c == 42||c == 34
def run (l:By):By:=l.takeWhile fun c=>!sgn c
def toks:Nat→Bool→By→List Tok
 | 0,_,_=>[]
 | _+1,_,[]=>[]
 | n+1,g,c::r =>
  if c=32 then toks n false r
  else if c=40∨c=41∨c=58∨c=42 then ⟨c,[],g⟩::toks n true r
  else if c=34 then match Sp.cut 34 r with
   | some (x,y)=>⟨113,x,g⟩::toks n true y
   | none=>⟨34,[],g⟩::toks n true r
  else ⟨114,c::run r,g⟩::toks n true (r.drop (run r).length)
theorem run_le (l:By):(run l).length≤l.length:=by unfold run;exact (List.takeWhile_sublist _).length_le
theorem toks_fuel:∀ (n m:Nat) (g:Bool) (l:By),l.length≤n→l.length≤m→toks n g l=toks m g l
 | 0,0,_,_,_,_=>rfl
 | 0,m+1,g,l,h,_=>by
  have:=Aw (Nat.le_zero.1 h)
  subst this;simp[toks]
 | n+1,0,g,l,_,h=>by
  have:=Aw (Nat.le_zero.1 h)
  subst this;simp[toks]
 | n+1,m+1,g,[],_,_=>by simp[toks]
 | n+1,m+1,g,c::r,h1,h2=>by
  simp only[AO]at h1 h2
  have e:∀ (g:Bool) (x:By),x.length≤r.length→toks n g x=toks m g x:=fun g x hx=>toks_fuel n m g x (by omega) (by omega)
  unfold toks
  rw[e _ _ (An _),e _ _ (An _),e _ (r.drop (run r).length) (by rw[AG];omega)]
  cases hc:Sp.cut 34 r with
  | none=>rfl
  | some p =>
   obtain⟨x,y⟩:=p
   have:=Sp.cut_len hc
   simp only
   rw[e _ y (by omega)]
def tokF (g:Bool) (l:By):List Tok:=toks l.length g l
def tokens (l:By):List Tok:=tokF false l
theorem tokF_nil (g:Bool):tokF g []=[]:=rfl
theorem tokF_cons (g:Bool) (c:UInt8) (r:By):tokF g (c::r) =
  if c=32 then tokF false r
  else if c=40∨c=41∨c=58∨c=42 then ⟨c,[],g⟩::tokF true r
  else if c=34 then match Sp.cut 34 r with
   | some (x,y)=>⟨113,x,g⟩::tokF true y
   | none=>⟨34,[],g⟩::tokF true r
  else ⟨114,c::run r,g⟩::tokF true (r.drop (run r).length):=by
 unfold tokF
 rw[AO,toks]
 rw[toks_fuel r.length (r.drop (run r).length).length true (r.drop (run r).length) (by rw[AG];omega) (An _)]
 cases hc:Sp.cut 34 r with
 | none=>rfl
 | some p =>
  obtain⟨x,y⟩:=p
  have:=Sp.cut_len hc
  simp only
  rw[toks_fuel r.length y.length true y (by omega) (An _)]
def lk (r:List Tok):Tok:=r.headD ⟨0,[],false⟩
def lk1 (r:List Tok):Tok:=lk r.tail
def orB:By:=[79,82]
def andB:By:=[65,78,68]
def notB:By:=[78,79,84]
def isOp (s:By) (r:List Tok):Bool:=(lk r).k == 114&&(lk r).t == s
def anyOp (t:Tok):Bool:=t.k == 114&&(t.t == orB||t.t == andB||t.t == notB)
def word0 (r:List Tok):Bool:=(lk r).k == 113||((lk r).k == 114&&!anyOp (lk r))
def begins (r:List Tok):Bool:=(lk r).k == 40||word0 r
def glue (c:UInt8) (r:List Tok):Bool:=(lk r).k == 114&&(lk1 r).k == c&&(lk1 r).g
def joined (op:Int):List Qy→Qy
 | [x]=>x
 | l=>.mk op 0 [] 0 0 (l.flatMap fun k=>if k.op=op then k.ks else [k])
def wordsB (t:By):List ByteArray:=(Tx.words t).map fun x=>⟨x.toArray⟩
abbrev PR:=Option (Qy × List Tok)
def yearN (x:By):Option Nat:=if 4<x.length then A4 else Nm.num x
def pYears (st:Bool) (r:List Tok):PR :=
 if (st&&(lk1 r).k == 58&&(lk1 r).g)=true then A4
 else if (lk r).k≠114 then A4
 else match Sp.cut 45 (lk r).t with
  | none=>A4
  | some (x,y)=>match yearN x,yearN y with
   | some m,A2 n=>A2 (.mk 4 0 [] m n [],r.tail)
   | _,_=>A4
def pTerm (st:Bool) (f:Int) (r:List Tok):PR :=
 if word0 r=false then A4
 else if (st&&glue 58 r)=true then A4
 else if Tx.words (lk r).t=[] then A4
 else if glue 42 r=true then (if 1<(Tx.words (lk r).t).length then A4 else A2 (.mk 2 f (wordsB (lk r).t) 0 0 [],r.tail.tail))
 else if (lk r).k=114∧(Tx.words (lk r).t).length=1 then A2 (.mk 1 f (wordsB (lk r).t) 0 0 [],r.tail)
 else A2 (.mk 3 f (wordsB (lk r).t) 0 0 [],r.tail)
def fieldOf (t:By):Option Int:=if t=[97,110,121] then A2 0 else if t=[116,105] then A2 1 else if t=[97,117] then A2 2 else if t=[115,117] then A2 3 else if t=[110,117] then A2 4 else A4
def pFlat (st:Bool) (r:List Tok):PR :=
 if word0 r=false then A4
 else if glue 58 r=true then
  if (lk r.tail.tail).g=false then A4
  else if word0 r.tail.tail=false then A4
  else if (lk r).t=[121,101,97,114] then pYears st r.tail.tail
  else match fieldOf (lk r).t with
   | none=>A4
   | some f=>pTerm st f r.tail.tail
 else pTerm st 0 r
mutual
def pOr (st:Bool):Nat→List Tok→PR
 | 0,_=>A4
 | n+1,r=>match pAnd st n r with
  | none=>A4
  | some (q,r')=>lOr st n [q] r'
def lOr (st:Bool):Nat→List Qy→List Tok→PR
 | 0,_,_=>A4
 | n+1,acc,r=>if isOp orB r=true then match pAnd st n r.tail with
   | none=>A4
   | some (q,r')=>lOr st n (acc++[q]) r'
  else A2 (joined 6 acc,r)
def pAnd (st:Bool):Nat→List Tok→PR
 | 0,_=>A4
 | n+1,r=>match pNot st n r with
  | none=>A4
  | some (q,r')=>lAnd st n [q] r'
def lAnd (st:Bool):Nat→List Qy→List Tok→PR
 | 0,_,_=>A4
 | n+1,acc,r=>if isOp andB r=true then match pNot st n r.tail with
   | none=>A4
   | some (q,r')=>lAnd st n (acc++[q]) r'
  else if begins r=true then match pNot st n r with
   | none=>A4
   | some (q,r')=>lAnd st n (acc++[q]) r'
  else A2 (joined 5 acc,r)
def pNot (st:Bool):Nat→List Tok→PR
 | 0,_=>A4
 | n+1,r=>match pPrim st n r with
  | none=>A4
  | some (q,r')=>if isOp notB r'=true then match pPrim st n r'.tail with
    | none=>A4
    | some (q2,r2)=>A2 (.mk 7 0 [] 0 0 [q,q2],r2)
   else A2 (q,r')
def pPrim (st:Bool):Nat→List Tok→PR
 | 0,_=>A4
 | n+1,r=>if (lk r).k=40 then match pOr st n r.tail with
   | none=>A4
   | some (q,r')=>if (lk r').k=41 then A2 (q,r'.tail) else A4
  else pFlat st r
end
def parse (s:By):Qy × Int :=
 if 1000<s.length then (.mk 0 0 [] 0 0 [],4)
 else if Tx.valid s=false then (.mk 0 0 [] 0 0 [],3)
 else match pOr true (8*(tokens s).length+8) (tokens s) with
  | some (q,[])=>if rightE q=0 then (q,0) else (.mk 0 0 [] 0 0 [],rightE q)
  | _=>(.mk 0 0 [] 0 0 [],3)
def Eats (r:List Tok) (x:PR):Prop:=∀ q r',x=A2 (q,r')→r' <:+ r∧r'.length<r.length
theorem tail_eats {r:List Tok} (h:(lk r).k≠0):r.tail <:+ r∧r.tail.length<r.length:=by
 cases r with
 | nil=>exact absurd rfl h
 | cons t l=>exact⟨List.suffix_cons t l,by simp⟩
theorem tail2_eats {r:List Tok} (h:(lk r).k≠0):r.tail.tail <:+ r∧r.tail.tail.length<r.length:=by
 have h1:=tail_eats h
 exact⟨(List.tail_suffix _).trans h1.1,by have:=List.length_tail (l:=r.tail);omega⟩
theorem word0_ne {r:List Tok} (h:word0 r=true):(lk r).k≠0:=by
 intro h0
 unfold word0 anyOp at h
 rw[h0]at h
 simp at h
theorem begins_ne {r:List Tok} (h:begins r=true):(lk r).k≠0:=by
 intro h0
 unfold begins word0 anyOp at h
 rw[h0]at h
 simp at h
theorem isOp_ne {r:List Tok}{s:By} (h:isOp s r=true):(lk r).k≠0:=by
 intro h0
 unfold isOp at h
 rw[h0]at h
 simp at h
theorem Eats.none (r:List Tok):Eats r A4:=fun q r' h=>by cases h
theorem Eats.some {r r':List Tok}{q:Qy} (h:r' <:+ r∧r'.length<r.length):Eats r (A2 (q,r')):=fun q2 r2 e=>by injection e with e;injection e with _ e;rw[← e];exact h
theorem Eats.trans {r r1:List Tok}{x:PR} (h:r1 <:+ r) (k:Eats r1 x):Eats r x:=fun q r' e=>⟨(k q r' e).1.trans h,Nat.lt_of_lt_of_le (k q r' e).2 h.length_le⟩
theorem eats_years (st:Bool) (r:List Tok) (hw:word0 r=true):Eats r (pYears st r):=by
 unfold pYears
 repeat' split
 all_goals first | exact .none _ | exact .some (tail_eats (word0_ne hw))
theorem eats_term (st:Bool) (f:Int) (r:List Tok):Eats r (pTerm st f r):=by
 unfold pTerm
 repeat' split
 all_goals first | exact .none _ | exact .some (tail_eats (word0_ne (by simpa using ‹¬ word0 r=false›))) | exact .some (tail2_eats (word0_ne (by simpa using ‹¬ word0 r=false›)))
theorem eats_flat (st:Bool) (r:List Tok):Eats r (pFlat st r):=by
 unfold pFlat
 split
 ·exact .none _
 ·rename_i hw
  have h2:=tail2_eats (word0_ne (by simpa using hw))
  repeat' split
  all_goals first | exact .none _ | exact .trans h2.1 (eats_years st _ (by simpa using ‹¬ word0 r.tail.tail=false›)) | exact .trans h2.1 (eats_term st _ _) | exact eats_term st _ _
theorem eats_all (st:Bool):∀ n,(∀ r,Eats r (pOr st n r))∧(∀ acc r q r',lOr st n acc r=A2 (q,r')→r' <:+ r)∧(∀ r,Eats r (pAnd st n r))∧(∀ acc r q r',lAnd st n acc r=A2 (q,r')→r' <:+ r)∧(∀ r,Eats r (pNot st n r))∧(∀ r,Eats r (pPrim st n r))
 | 0=>⟨fun r=>.none _,fun _ _ _ _ h=>by simp[lOr]at h,fun r=>.none _,fun _ _ _ _ h=>by simp[lAnd]at h,fun r=>.none _,fun r=>.none _⟩
 | n+1=>by
  obtain⟨h1,h2,h3,h4,h5,h6⟩:=eats_all st n
  refine⟨fun r=>?_,fun acc r q r' h=>?_,fun r=>?_,fun acc r q r' h=>?_,fun r=>?_,fun r=>?_⟩
  ·unfold pOr
   split
   ·exact .none _
   ·rename_i q r1 he
    have ha:=h3 r q r1 he
    exact fun q2 r2 e=>⟨(h2 _ _ _ _ e).trans ha.1,Nat.lt_of_le_of_lt (h2 _ _ _ _ e).length_le ha.2⟩
  ·unfold lOr at h
   split at h
   ·rename_i ho
    split at h
    ·cases h
    ·rename_i q1 r1 he
     exact ((h2 _ _ _ _ h).trans (h3 _ _ _ he).1).trans (tail_eats (isOp_ne ho)).1
   ·injection h with h;injection h with _ h;rw[h];exact Ek _
  ·unfold pAnd
   split
   ·exact .none _
   ·rename_i q r1 he
    have ha:=h5 r q r1 he
    exact fun q2 r2 e=>⟨(h4 _ _ _ _ e).trans ha.1,Nat.lt_of_le_of_lt (h4 _ _ _ _ e).length_le ha.2⟩
  ·unfold lAnd at h
   split at h
   ·rename_i ho
    split at h
    ·cases h
    ·rename_i q1 r1 he
     exact ((h4 _ _ _ _ h).trans (h5 _ _ _ he).1).trans (tail_eats (isOp_ne ho)).1
   ·split at h
    ·split at h
     ·cases h
     ·rename_i q1 r1 he
      exact (h4 _ _ _ _ h).trans (h5 _ _ _ he).1
    ·injection h with h;injection h with _ h;rw[h];exact Ek _
  ·unfold pNot
   split
   ·exact .none _
   ·rename_i q r1 he
    have ha:=h6 r q r1 he
    split
    ·rename_i ho
     split
     ·exact .none _
     ·rename_i q2 r2 he2
      have hb:=h6 _ _ _ he2
      have hc:=tail_eats (isOp_ne ho)
      exact .some ⟨(hb.1.trans hc.1).trans ha.1,by omega⟩
    ·exact .some ha
  ·unfold pPrim
   split
   ·rename_i hk
    have ht:=tail_eats (r:=r) (by rw[hk];decide)
    split
    ·exact .none _
    ·rename_i q r1 he
     have ha:=h1 _ _ _ he
     split
     ·rename_i h41
      have hc:=tail_eats (r:=r1) (by rw[h41];decide)
      exact .some ⟨(hc.1.trans ha.1).trans ht.1,by omega⟩
     ·exact .none _
   ·exact eats_flat st r
end Qr
end Go.Proofs.YtlakomilichhnaaGreatDoor
