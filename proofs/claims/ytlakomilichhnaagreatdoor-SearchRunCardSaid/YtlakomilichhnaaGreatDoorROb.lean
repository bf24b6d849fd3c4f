/- Parts. -/
import Derived.Test.YtlakomilichhnaaGreatDoorROt
namespace Go.Proofs.YtlakomilichhnaaGreatDoor
open Go.RowKit
open List renaming find?_cons->GZ,mem_map->BG
open Option renaming bind_some->Fa,none->A0,some->A3
open Tx renaming valid->AE
namespace Rc
open Go.Lib
def digB (c:UInt8):Bool:=decide (48<=c.toNat/\c.toNat<=57)
def lowB (c:UInt8):Bool:=decide (97<=c.toNat/\c.toNat<=122)
def codeB (c:UInt8):Bool:=digB c||lowB c
def tagOk (t:By):Bool:=decide (t.length=3)&&digB (t.getD 0 0)&&digB (t.getD 1 0)&&digB (t.getD 2 0)&&!decide (t<[48,49,48])
def indB (c:UInt8):Bool:=decide (c.toNat=32)||digB c
def indOk (t:By):Bool:=decide (t.length=2)&&indB (t.getD 0 0)&&indB (t.getD 1 0)
def subE (x:UInt8 × ByteArray):Int:=if codeB x.1=false then 1 else if x.2.data.toList=[] then 8 else if AE x.2.data.toList=false then 3 else if 200<x.2.size then 4 else 0
def firstE:List Int->Int
 | []=>0
 | e::r=>if e=0 then firstE r else e
theorem firstE_step {l:List Int}{k:Nat}{e:Int} (h:l[k]?=A3 e):firstE (l.drop k)=if e=0 then firstE (l.drop (k+1)) else e:=by
 have hk:=zke;rw[List.drop_eq_getElem_cons hk,(List.getElem?_eq_some_iff.1 h).2];rfl
theorem firstE_zero:∀ {l:List Int},firstE l=0->∀ e∈l,e=0
 | [],_,e,h=>by simp at h
 | x::r,h0,e,h=>by
  unfold firstE at h0;split at h0
  ·rename_i hx;rcases List.mem_cons.1 h with h1 | h1
   ·rw[h1];exact hx
   ·exact firstE_zero h0 e h1
  ·rename_i hx;exact absurd h0 hx
def fieldE (f:Fl):Int:=if tagOk f.tag.data.toList=false then 6 else if indOk f.ind.data.toList=false then 3 else if f.subs.length=0 then 8 else if 16<f.subs.length then 4 else if firstE (f.subs.map subE)≠0 then firstE (f.subs.map subE) else if f.auth<0\/9999<f.auth then 2 else 0
structure Rd where
 id:Int
 ver:Int
 kind:Int
 lang:ByteArray
 fields:List Fl
def langOk (l:By):Bool:=lowB (l.getD 0 0)&&lowB (l.getD 1 0)&&lowB (l.getD 2 0)
def recE (r:Rd):Int:=if r.id<0\/9999<r.id then 2 else if r.ver<1\/3<r.ver then 20 else if r.kind<1\/4<r.kind then 1 else if r.lang.data.toList.length≠3 then 3 else if langOk r.lang.data.toList=false then 3 else if 64<r.fields.length then 4 else firstE (r.fields.map fieldE)
def smallF (f:Fl):Bool:=decide (f.subs.length<=20/\∀ x∈f.subs,x.2.size<=300)
def smallR (fs:List Fl):Bool:=decide (fs.length<=70/\∀ f∈fs,smallF f=true)
structure Okf (f:Fl):Prop where
 gd:Gd f
 tag:f.tag.data.toList.length=3
 subs:f.subs.length<=16
 ind:f.ind.data.toList.length=2
 vals:∀ x∈f.subs,codeB x.1=true/\x.2.data.toList≠[]/\AE x.2.data.toList=true/\x.2.size<=200
 auth:0<=f.auth/\f.auth<=9999
 tagok:tagOk f.tag.data.toList=true
 indok:indOk f.ind.data.toList=true
theorem subE_zero {x:UInt8 × ByteArray} (h:subE x=0):codeB x.1=true/\x.2.data.toList≠[]/\AE x.2.data.toList=true/\x.2.size<=200:=by
 unfold subE at h;by_cases h1:codeB x.1=false
 ·rw[if_pos h1]at h;cases h
 ·rw[if_neg h1]at h;by_cases h2:x.2.data.toList=[]
  ·rw[if_pos h2]at h;cases h
  ·rw[if_neg h2]at h;by_cases h3:AE x.2.data.toList=false
   ·rw[if_pos h3]at h;cases h
   ·rw[if_neg h3]at h;by_cases h4:200<x.2.size
    ·rw[if_pos h4]at h;cases h
    ·exact⟨by simpa using h1,h2,by simpa using h3,oQ⟩
theorem tagOk_len {t:By} (h:tagOk t=true):t.length=3:=by
 unfold tagOk at h;simp only[Bool.and_eq_true]at h;exact of_decide_eq_true h.1.1.1.1
theorem indOk_len {t:By} (h:indOk t=true):t.length=2:=by
 unfold indOk at h;simp only[Bool.and_eq_true]at h;exact of_decide_eq_true h.1.1
theorem fieldE_zero {f:Fl} (h:fieldE f=0):Okf f:=by
 unfold fieldE at h;by_cases h1:tagOk f.tag.data.toList=false
 ·rw[if_pos h1]at h;cases h
 ·rw[if_neg h1]at h;by_cases h2:indOk f.ind.data.toList=false
  ·rw[if_pos h2]at h;cases h
  ·rw[if_neg h2]at h;by_cases h3:f.subs.length=0
   ·rw[if_pos h3]at h;cases h
   ·rw[if_neg h3]at h;by_cases h4:16<f.subs.length
    ·rw[if_pos h4]at h;cases h
    ·rw[if_neg h4]at h;by_cases h5:firstE (f.subs.map subE)=0
     ·rw[if_neg (by simpa using h5)]at h;by_cases h6:f.auth<0\/9999<f.auth
      ·rw[if_pos h6]at h;cases h
      ·have hv:∀ x∈f.subs,codeB x.1=true/\x.2.data.toList≠[]/\AE x.2.data.toList=true/\x.2.size<=200:=fun x hx=>subE_zero (firstE_zero h5 _ (BG.2 ⟨x,hx,rfl⟩));have t1:tagOk f.tag.data.toList=true:=by simpa using h1
       have t2:indOk f.ind.data.toList=true:=by simpa using h2
       exact⟨⟨oQ,fun x hx=>⟨by have:=(hv x hx).2.2.2;omega,(hv x hx).2.2.1⟩⟩,tagOk_len t1,oQ,indOk_len t2,hv,oQ,t1,t2⟩
     ·rw[if_pos (by simpa using h5)]at h;exact absurd h h5
theorem recE_zero {r:Rd} (h:recE r=0):(0<=r.id/\r.id<=9999)/\(1<=r.ver/\r.ver<=3)/\(1<=r.kind/\r.kind<=4)/\r.lang.data.toList.length=3/\langOk r.lang.data.toList=true/\r.fields.length<=64/\∀ f∈r.fields,Okf f:=by
 unfold recE at h;by_cases h1:r.id<0\/9999<r.id
 ·rw[if_pos h1]at h;cases h
 ·rw[if_neg h1]at h;by_cases h2:r.ver<1\/3<r.ver
  ·rw[if_pos h2]at h;cases h
  ·rw[if_neg h2]at h;by_cases h3:r.kind<1\/4<r.kind
   ·rw[if_pos h3]at h;cases h
   ·rw[if_neg h3]at h;by_cases h4:r.lang.data.toList.length≠3
    ·rw[if_pos h4]at h;cases h
    ·rw[if_neg h4]at h;by_cases h5:langOk r.lang.data.toList=false
     ·rw[if_pos h5]at h;cases h
     ·rw[if_neg h5]at h;by_cases h6:64<r.fields.length
      ·rw[if_pos h6]at h;cases h
      ·rw[if_neg h6]at h;exact⟨oQ,oQ,oQ,oQ,by simpa using h5,oQ,fun f hf=>fieldE_zero (firstE_zero h _ (BG.2 ⟨f,hf,rfl⟩))⟩
theorem fieldE_6 {f:Fl} (h1:tagOk f.tag.data.toList=false):fieldE f=6:=by unfold fieldE;rw[if_pos h1]
theorem fieldE_3 {f:Fl} (h1:tagOk f.tag.data.toList=true) (h2:indOk f.ind.data.toList=false):fieldE f=3:=by unfold fieldE;rw[if_neg uZ,if_pos h2]
theorem fieldE_8 {f:Fl} (h1:tagOk f.tag.data.toList=true) (h2:indOk f.ind.data.toList=true) (h3:f.subs.length=0):fieldE f=8:=by unfold fieldE;rw[if_neg uZ,if_neg (by simp[h2]),if_pos h3]
theorem fieldE_4 {f:Fl} (h1:tagOk f.tag.data.toList=true) (h2:indOk f.ind.data.toList=true) (h3:16<f.subs.length):fieldE f=4:=by unfold fieldE;rw[if_neg uZ,if_neg (by simp[h2]),if_neg oQ,if_pos h3]
theorem fieldE_mid {f:Fl} (h1:tagOk f.tag.data.toList=true) (h2:indOk f.ind.data.toList=true) (h3:f.subs.length≠0) (h4:f.subs.length<=16):fieldE f=if firstE (f.subs.map subE)≠0 then firstE (f.subs.map subE) else if f.auth<0\/9999<f.auth then 2 else 0:=by
 unfold fieldE;rw[if_neg uZ,if_neg (by simp[h2]),if_neg h3,if_neg oQ]
theorem subE_1 {x:UInt8 × ByteArray} (h:codeB x.1=false):subE x=1:=by unfold subE;rw[if_pos h]
theorem subE_8 {x:UInt8 × ByteArray} (h:codeB x.1=true) (h2:x.2.data.toList=[]):subE x=8:=by unfold subE;rw[if_neg (by simp[h]),if_pos h2]
theorem subE_3 {x:UInt8 × ByteArray} (h:codeB x.1=true) (h2:x.2.data.toList≠[]) (h3:AE x.2.data.toList=false):subE x=3:=by unfold subE;rw[if_neg (by simp[h]),if_neg h2,if_pos h3]
theorem subE_4 {x:UInt8 × ByteArray} (h:codeB x.1=true) (h2:x.2.data.toList≠[]) (h3:AE x.2.data.toList=true) (h4:200<x.2.size):subE x=4:=by unfold subE;rw[if_neg (by simp[h]),if_neg h2,if_neg (by simp[h3]),if_pos h4]
theorem subE_0 {x:UInt8 × ByteArray} (h:codeB x.1=true) (h2:x.2.data.toList≠[]) (h3:AE x.2.data.toList=true) (h4:x.2.size<=200):subE x=0:=by unfold subE;rw[if_neg (by simp[h]),if_neg h2,if_neg (by simp[h3]),if_neg oQ]
theorem sub_step {l:List (UInt8 × ByteArray)}{k:Nat}{x:UInt8 × ByteArray}{n:Int} (h:l[k]?=A3 x) (hd:firstE ((l.map subE).drop k)=n):(subE x=0->firstE ((l.map subE).drop (k+1))=n)/\(subE x≠0->n=subE x):=by
 have:=firstE_step (l:=l.map subE) (k:=k) (e:=subE x) (by rw[List.getElem?_map,h];rfl);rw[hd]at this;exact⟨fun h0=>by rw[if_pos h0]at this;exact this.symm,fun h0=>by rw[if_neg h0]at this;exact this⟩
def fieldsP (fs:List Fl) (p:By):List Fl:=fs.filter fun f=>hasPrefix f.tag.data.toList p
theorem pre_eq {t p:By} (h:t.length=p.length):hasPrefix t p=(t == p):=by
 rw[Bool.eq_iff_iff,beq_iff_eq];unfold hasPrefix;rw[List.isPrefixOf_iff_prefix];constructor
 ·intro h1;exact (List.IsPrefix.eq_of_length h1 h.symm).symm
 ·intro h1;rw[h1];exact List.prefix_refl _
theorem head_filter {α:Type} (p:α->Bool):∀ l:List α,(l.filter p).head?=l.find? p
 | []=>rfl
 | x::r=>by
  rw[List.filter_cons,GZ];cases hp:p x with
  | true=>simp
  | false=>simp
theorem fieldsP_first {fs:List Fl}{t:By} (ht:∀ f∈fs,f.tag.data.toList.length=t.length):(fieldsP fs t).head?=first fs t:=by
 unfold fieldsP first
 rw[head_filter]
 have:∀ l:List Fl,(∀ f∈l,f.tag.data.toList.length=t.length)->l.find? (fun f=>hasPrefix f.tag.data.toList t)=l.find? (tagIs t):=by
  intro l
  induction l with
  | nil=>intro _;rfl
  | cons x r ih =>
   intro h;rw[GZ,GZ,pre_eq (h x oZ),ih fun f hf=>h f (by simp[hf])];rfl
 exact this fs ht
def authorR (fs:List Fl):List By->By
 | []=>[]
 | t::ts=>match (fieldsP fs t).head? with
  | none=>authorR fs ts
  | some f=>match get f.subs 97 with
   | some v=>v.data.toList
   | none=>authorR fs ts
theorem authorR_eq {fs:List Fl} (ht:∀ f∈fs,f.tag.data.toList.length=3):authorR fs [[49,48,48],[49,49,48],[55,48,48]]=author fs:=by
 unfold author authorT;simp only[authorR];rw[fieldsP_first (t:=[49,48,48]) ht,fieldsP_first (t:=[49,49,48]) ht,fieldsP_first (t:=[55,48,48]) ht];cases first fs [49,48,48] with
 | none =>
  cases first fs [49,49,48] with
  | none =>
   cases first fs [55,48,48] with
   | none=>rfl
   | some f=>simp only[Fa,Option.bind_none];cases get f.subs 97 <;> rfl
  | some f =>
   simp only[Fa,Option.bind_none];cases get f.subs 97 with
   | some v=>rfl
   | none =>
    simp only;cases first fs [55,48,48] with
    | none=>rfl
    | some f=>simp only[Fa];cases get f.subs 97 <;> rfl
 | some f =>
  simp only[Fa];cases get f.subs 97 with
  | some v=>rfl
  | none =>
   simp only;cases first fs [49,49,48] with
   | none =>
    cases first fs [55,48,48] with
    | none=>rfl
    | some f=>simp only[Fa,Option.bind_none];cases get f.subs 97 <;> rfl
   | some f =>
    simp only[Fa];cases get f.subs 97 with
    | some v=>rfl
    | none =>
     simp only;cases first fs [55,48,48] with
     | none=>rfl
     | some f=>simp only[Fa];cases get f.subs 97 <;> rfl
def titleR (fs:List Fl):By:=match (fieldsP fs [50,52,53]).head? with
 | none=>[]
 | some f=>Tx.clean (plain f.subs [97,98])
theorem titleR_eq {fs:List Fl} (ht:∀ f∈fs,f.tag.data.toList.length=3):titleR fs=title fs:=by
 unfold titleR title;rw[fieldsP_first (t:=[50,52,53]) ht];cases first fs [50,52,53] <;> rfl
end Rc
end Go.Proofs.YtlakomilichhnaaGreatDoor
