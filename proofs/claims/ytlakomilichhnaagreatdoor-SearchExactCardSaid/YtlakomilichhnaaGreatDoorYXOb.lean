/- Texts of this seat's, what the claim needs of them. -/
import Derived.Test.YtlakomilichhnaaGreatDoorZOb
import Derived.Test.YtlakomilichhnaaGreatDoorYXOt
namespace Go.Proofs.YtlakomilichhnaaGreatDoor
open Go.RowKit
namespace Rc
open Go.Lib
theorem firstE_step {l:List Int}{k:Nat}{e:Int} (h:l[k]?=some e):firstE (l.drop k)=if e=0 then firstE (l.drop (k+1)) else e:=by
 have hk:k<l.length:=(List.getElem?_eq_some_iff.1 h).1
 rw[List.drop_eq_getElem_cons hk,(List.getElem?_eq_some_iff.1 h).2]
 rfl
theorem fieldE_6 {f:Fl} (h1:tagOk f.tag.data.toList=false):fieldE f=6:=by unfold fieldE;rw[if_pos h1]
theorem fieldE_3 {f:Fl} (h1:tagOk f.tag.data.toList=true) (h2:indOk f.ind.data.toList=false):fieldE f=3:=by unfold fieldE;rw[if_neg (by simp[h1]),if_pos h2]
theorem fieldE_8 {f:Fl} (h1:tagOk f.tag.data.toList=true) (h2:indOk f.ind.data.toList=true) (h3:f.subs.length=0):fieldE f=8:=by unfold fieldE;rw[if_neg (by simp[h1]),if_neg (by simp[h2]),if_pos h3]
theorem fieldE_4 {f:Fl} (h1:tagOk f.tag.data.toList=true) (h2:indOk f.ind.data.toList=true) (h3:16<f.subs.length):fieldE f=4:=by unfold fieldE;rw[if_neg (by simp[h1]),if_neg (by simp[h2]),if_neg (by omega),if_pos h3]
theorem fieldE_mid {f:Fl} (h1:tagOk f.tag.data.toList=true) (h2:indOk f.ind.data.toList=true) (h3:f.subs.length≠0) (h4:f.subs.length≤16):fieldE f=if firstE (f.subs.map subE)≠0 then firstE (f.subs.map subE) else if f.auth<0∨9999<f.auth then 2 else 0:=by
 unfold fieldE;rw[if_neg (by simp[h1]),if_neg (by simp[h2]),if_neg h3,if_neg (by omega)]
theorem subE_1 {x:UInt8 × ByteArray} (h:codeB x.1=false):subE x=1:=by unfold subE;rw[if_pos h]
theorem subE_8 {x:UInt8 × ByteArray} (h:codeB x.1=true) (h2:x.2.data.toList=[]):subE x=8:=by unfold subE;rw[if_neg (by simp[h]),if_pos h2]
theorem subE_3 {x:UInt8 × ByteArray} (h:codeB x.1=true) (h2:x.2.data.toList≠[]) (h3:Tx.valid x.2.data.toList=false):subE x=3:=by unfold subE;rw[if_neg (by simp[h]),if_neg h2,if_pos h3]
theorem subE_4 {x:UInt8 × ByteArray} (h:codeB x.1=true) (h2:x.2.data.toList≠[]) (h3:Tx.valid x.2.data.toList=true) (h4:200<x.2.size):subE x=4:=by unfold subE;rw[if_neg (by simp[h]),if_neg h2,if_neg (by simp[h3]),if_pos h4]
theorem subE_0 {x:UInt8 × ByteArray} (h:codeB x.1=true) (h2:x.2.data.toList≠[]) (h3:Tx.valid x.2.data.toList=true) (h4:x.2.size≤200):subE x=0:=by unfold subE;rw[if_neg (by simp[h]),if_neg h2,if_neg (by simp[h3]),if_neg (by omega)]
theorem sub_step {l:List (UInt8 × ByteArray)}{k:Nat}{x:UInt8 × ByteArray}{n:Int} (h:l[k]?=some x) (hd:firstE ((l.map subE).drop k)=n):(subE x=0→firstE ((l.map subE).drop (k+1))=n)∧(subE x≠0→n=subE x):=by
 have:=firstE_step (l:=l.map subE) (k:=k) (e:=subE x) (by rw[List.getElem?_map,h];rfl)
 rw[hd]at this
 exact⟨fun h0=>by rw[if_pos h0]at this;exact this.symm,fun h0=>by rw[if_neg h0]at this;exact this⟩
end Rc
end Go.Proofs.YtlakomilichhnaaGreatDoor
