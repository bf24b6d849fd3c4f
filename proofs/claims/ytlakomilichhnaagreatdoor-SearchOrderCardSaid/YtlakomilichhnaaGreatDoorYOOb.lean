/- Texts of this seat's, what the claim needs of them. -/
import Derived.Test.YtlakomilichhnaaGreatDoorYOOa
import Derived.Test.YtlakomilichhnaaGreatDoorZOb
namespace Go.Proofs.YtlakomilichhnaaGreatDoor
open Go.RowKit
open List renaming find?_cons→IT,getElem?_eq_some_iff→Ai
open Option renaming bind_some→Gp,none→A4,some→A2
namespace Rc
open Go.Lib
theorem firstE_step {l:List Int}{k:Nat}{e:Int} (h:l[k]?=A2 e):firstE (l.drop k)=if e=0 then firstE (l.drop (k+1)) else e:=by
 have hk:k<l.length:=(Ai.1 h).1
 rw[List.drop_eq_getElem_cons hk,(Ai.1 h).2]
 rfl
theorem fieldE_6 {f:Fl} (h1:tagOk f.tag.data.toList=false):fieldE f=6:=by unfold fieldE;rw[if_pos h1]
theorem fieldE_3 {f:Fl} (h1:tagOk f.tag.data.toList=true) (h2:indOk f.ind.data.toList=false):fieldE f=3:=by unfold fieldE;rw[if_neg (by simp[h1]),if_pos h2]
theorem fieldE_8 {f:Fl} (h1:tagOk f.tag.data.toList=true) (h2:indOk f.ind.data.toList=true) (h3:f.subs.length=0):fieldE f=8:=by unfold fieldE;rw[if_neg (by simp[h1]),if_neg (by simp[h2]),if_pos h3]
theorem fieldE_4 {f:Fl} (h1:tagOk f.tag.data.toList=true) (h2:indOk f.ind.data.toList=true) (h3:16<f.subs.length):fieldE f=4:=by unfold fieldE;rw[if_neg (by simp[h1]),if_neg (by simp[h2]),if_neg (by omega),if_pos h3]
theorem fieldE_mid {f:Fl} (h1:tagOk f.tag.data.toList=true) (h2:indOk f.ind.data.toList=true) (h3:f.subs.length≠0) (h4:f.subs.length≤16):fieldE f=if firstE (f.subs.map subE)≠0 then firstE (f.subs.map subE) else if f.auth<0∨9999<f.auth then 2 else 0:=by
 unfold fieldE;rw[if_neg (by simp[h1]),if_neg (by simp[h2]),if_neg h3,if_neg (by omega)]
theorem subE_1 {x:UInt8 × ByteArray} (h:codeB x.1=false):subE x=1:=by unfold subE;rw[if_pos h]
theorem subE_8 {x:UInt8 × ByteArray} (h:codeB x.1=true) (h2:x.2.data.toList=[]):subE x=8:=by unfold subE;rw[if_neg (by simp[h]),if_pos h2]
theorem subE_3 {x:UInt8 × ByteArray} (h:codeB x.1=true) (h2:x.2.data.toList≠[]) (h3:Tx.valid x.2.data.toList=false):subE x=3:=by unfold subE;rw[if_neg (by simp[h]),if_neg h2,if_pos h3]
theorem subE_4 {x:UInt8 × ByteArray} (h:codeB x.1=true) (h2:x.2.data.toList≠[]) (h3:Tx.valid x.2.data.toList=true) (h4:200<x.2.size):subE x=4:=by unfold subE;rw[if_neg (by simp[h]),if_neg h2,if_neg (by simp[h3]),if_pos h4]
theorem subE_0 {x:UInt8 × ByteArray} (h:codeB x.1=true) (h2:x.2.data.toList≠[]) (h3:Tx.valid x.2.data.toList=true) (h4:x.2.size≤200):subE x=0:=by unfold subE;rw[if_neg (by simp[h]),if_neg h2,if_neg (by simp[h3]),if_neg (by omega)]
theorem sub_step {l:List (UInt8 × ByteArray)}{k:Nat}{x:UInt8 × ByteArray}{n:Int} (h:l[k]?=A2 x) (hd:firstE ((l.map subE).drop k)=n):(subE x=0→firstE ((l.map subE).drop (k+1))=n)∧(subE x≠0→n=subE x):=by
 have:=firstE_step (l:=l.map subE) (k:=k) (e:=subE x) (by rw[List.getElem?_map,h];rfl)
 rw[hd]at this
 exact⟨fun h0=>by rw[if_pos h0]at this;exact this.symm,fun h0=>by rw[if_neg h0]at this;exact this⟩
def fieldsP (fs:List Fl) (p:By):List Fl:=fs.filter fun f=>hasPrefix f.tag.data.toList p
theorem pre_eq {t p:By} (h:t.length=p.length):hasPrefix t p=(t == p):=by
 rw[Bool.eq_iff_iff,beq_iff_eq]
 unfold hasPrefix
 rw[List.isPrefixOf_iff_prefix]
 constructor
 ·intro h1
  exact (List.IsPrefix.eq_of_length h1 h.symm).symm
 ·intro h1;rw[h1];exact List.prefix_refl _
theorem head_filter {α:Type} (p:α→Bool):∀ l:List α,(l.filter p).head?=l.find? p
 | []=>rfl
 | x::r=>by
  rw[List.filter_cons,IT]
  cases hp:p x with
  | true=>simp
  | false=>simp
theorem fieldsP_first {fs:List Fl}{t:By} (ht:∀ f∈fs,f.tag.data.toList.length=t.length):(fieldsP fs t).head?=first fs t:=by
 unfold fieldsP first
 rw[head_filter]
 have:∀ l:List Fl,(∀ f∈l,f.tag.data.toList.length=t.length)→l.find? (fun f=>hasPrefix f.tag.data.toList t)=l.find? (tagIs t):=by
  intro l
  induction l with
  | nil=>intro _;rfl
  | cons x r ih =>
   intro h
   rw[IT,IT,pre_eq (h x (by simp)),ih fun f hf=>h f (by simp[hf])]
   rfl
 exact this fs ht
def authorR (fs:List Fl):List By→By
 | []=>[]
 | t::ts=>match (fieldsP fs t).head? with
  | none=>authorR fs ts
  | some f=>match get f.subs 97 with
   | some v=>v.data.toList
   | none=>authorR fs ts
theorem authorR_eq {fs:List Fl} (ht:∀ f∈fs,f.tag.data.toList.length=3):authorR fs [[49,48,48],[49,49,48],[55,48,48]]=author fs:=by
 unfold author authorT
 simp only[authorR]
 rw[fieldsP_first (t:=[49,48,48]) ht,fieldsP_first (t:=[49,49,48]) ht,fieldsP_first (t:=[55,48,48]) ht]
 cases first fs [49,48,48] with
 | none =>
  cases first fs [49,49,48] with
  | none =>
   cases first fs [55,48,48] with
   | none=>rfl
   | some f=>simp only[Gp,Option.bind_none];cases get f.subs 97 <;> rfl
  | some f =>
   simp only[Gp,Option.bind_none]
   cases get f.subs 97 with
   | some v=>rfl
   | none =>
    simp only
    cases first fs [55,48,48] with
    | none=>rfl
    | some f=>simp only[Gp];cases get f.subs 97 <;> rfl
 | some f =>
  simp only[Gp]
  cases get f.subs 97 with
  | some v=>rfl
  | none =>
   simp only
   cases first fs [49,49,48] with
   | none =>
    cases first fs [55,48,48] with
    | none=>rfl
    | some f=>simp only[Gp,Option.bind_none];cases get f.subs 97 <;> rfl
   | some f =>
    simp only[Gp]
    cases get f.subs 97 with
    | some v=>rfl
    | none =>
     simp only
     cases first fs [55,48,48] with
     | none=>rfl
     | some f=>simp only[Gp];cases get f.subs 97 <;> rfl
def titleR (fs:List Fl):By:=match (fieldsP fs [50,52,53]).head? with
 | none=>[]
 | some f=>Tx.clean (plain f.subs [97,98])
theorem titleR_eq {fs:List Fl} (ht:∀ f∈fs,f.tag.data.toList.length=3):titleR fs=title fs:=by
 unfold titleR title
 rw[fieldsP_first (t:=[50,52,53]) ht]
 cases first fs [50,52,53] <;> rfl
end Rc
end Go.Proofs.YtlakomilichhnaaGreatDoor
