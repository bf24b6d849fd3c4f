/- Texts of this seat's, what the claim needs of them. -/
import Derived.Test.YtlakomilichhnaaGreatDoorYOOm
import Derived.Test.YtlakomilichhnaaGreatDoorZPd
namespace Go.Proofs.YtlakomilichhnaaGreatDoor
set_option maxHeartbeats 800000
set_option maxRecDepth 100000
open Go.RowKit
theorem r22_Has_c (xs:List Int) (n:Int) (a:Option Addr) (c:Nat) (w:World) (h:Ix.IA w a c xs) :
  Calls Tryz.prog 51 #[.slice a xs.length c,.int .i64 n] w fun e w'=>e=.returned (.bool (decide (n∈xs)))∧w'=w:=by
 obtain⟨r,hr⟩:∃ r,decide (n∈xs)=r:=⟨_,rfl⟩
 rw[hr]
 have HR:=Lib.hid hr
 have HS:=Lib.hid h
 have hcap:=h.cap
 have hmax:=h.max
 unfold maxLen at hmax
 clear hr h
 go_enter Tryz.func51,Tryz.ntmps51
 go_wp2
 go_loop [5] (fun i=>∃ k:Nat,k≤xs.length∧i=.int .i64 k∧Hid (n ∉ xs.take k)) (fun i=>xs.length - (intOf i).toNat)
 case atStart=>exact⟨0,Nat.zero_le _,by go_num,Lib.hid (by simp)⟩
 case round =>
  obtain⟨k,hk,rfl,hN⟩:=hrel
  by_cases hlt:k<xs.length
  ·obtain⟨y,hy⟩:∃ y,xs[k]?=some y:=⟨_,List.getElem?_eq_getElem hlt⟩
   obtain⟨b,o,rfl,hbl,f0⟩:=Ix.IA.cell HS.out hy
   have htk:xs.take (k+1)=xs.take k++[y]:=by rw[List.take_add_one,hy];rfl
   have hmem:y∈xs:=List.mem_of_getElem? hy
   by_cases hq:y=n
   ·have hq2:(y == n)=true:=beq_iff_eq.2 hq
    have hrt:r=true:=by rw[← HR.out];exact decide_eq_true (hq▸hmem)
    subst hrt
    clear htk hmem hy hq
    go_wp2
    go_ret
    exact⟨rfl,rfl⟩
   ·have hq2:(y == n)=false:=beq_eq_false_iff_ne.2 hq
    have HN:Hid (n ∉ xs.take (k+1)):=Lib.hid (by
     rw[htk,List.mem_append,List.mem_singleton]
     rintro (h9 | h9)
     ·exact hN.out h9
     ·exact hq h9.symm)
    clear htk hmem hy hq
    go_wp2
    go_round
    case rel=>exact⟨k+1,hlt,by go_num,HN⟩
    case measure=>simp[intOf];omega
  ·obtain rfl:k=xs.length:=by omega
   have hrf:r=false:=by rw[← HR.out];exact decide_eq_false (by have:=hN.out;rwa [List.take_length]at this)
   subst hrf
   go_wp2
   go_ret
   exact⟨rfl,rfl⟩
end Go.Proofs.YtlakomilichhnaaGreatDoor
