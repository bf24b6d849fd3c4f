/- Texts of this seat's, what the claim needs of them. -/
import Derived.Test.YtlakomilichhnaaGreatDoorYEOm
import Derived.Test.YtlakomilichhnaaGreatDoorZPd
namespace Go.Proofs.YtlakomilichhnaaGreatDoor
set_option maxHeartbeats 800000
set_option maxRecDepth 100000
open Go.RowKit
open Go renaming cell_later→A0
open Lib renaming hid→J
open Proofs.Tryz renaming func69→Kl,ntmps69→JG
theorem r22_Years_c (fs:List Rc.Fl) (a:Option Addr) (c:Nat) (id ver kind:Int) (lang:ByteArray) (op fl ya yb:Int) (v2 v5:Value) (w:World) (h:Rc.FldA w a c fs) (hg:∀ f∈fs,Rc.Gd f) :
  Calls Tryz.prog 69 #[.agg #[.int .i64 id,.int .i64 ver,.int .i64 kind,.string lang,.slice a fs.length c],.agg #[.int .i64 op,.int .i64 fl,v2,.int .i64 ya,.int .i64 yb,v5]] w fun e w'=>e=.returned (.bool (Sr.yrB (Rc.year fs) ya yb))∧Below w.heap.size w w':=by
 obtain⟨W,hW⟩:∃ W,(w.alloc (.cells #[.int .i64 id,.int .i64 ver,.int .i64 kind,.string lang,.slice a fs.length c] 51)).alloc (.cells #[.int .i64 op,.int .i64 fl,v2,.int .i64 ya,.int .i64 yb,v5] 29)=W:=⟨_,rfl⟩
 have hR:=Sr.RQ.new w id ver kind lang (.slice a fs.length c) (.int .i64 op) (.int .i64 fl) v2 (.int .i64 ya) (.int .i64 yb) v5 51 29
 rw[hW]at hR
 obtain⟨hB,c0,c1,c2,c3,c4,d0,d1,d2,d3,d4,d5⟩:=hR
 have YC:=r08_Year_c fs a c id ver kind lang W (h.below hB) hg
 obtain⟨y,hy⟩:∃ y,Rc.year fs=y:=⟨_,rfl⟩
 rw[hy]at YC ⊢
 obtain⟨b,hb⟩:∃ b,Sr.yrB (y:Int) ya yb=b:=⟨_,rfl⟩
 rw[hb]
 unfold Sr.yrB at hb
 have HY:=J YC
 clear YC hy h hg
 by_cases h0:(y:Int)=0
 ·have hb2:b=false:=by rw[← hb,decide_eq_true h0];rfl
  have t0:((y:Int) != 0)=false:=by rw[h0];rfl
  subst hb2
  clear hb h0
  go_enter Kl,JG
  go_wp2_with (go_at_call 113;((with_reducible refine HY.out.mono ?_);rintro e w1 ⟨rfl,hb1⟩;have d3':=A0 hb1 d3;have d4':=A0 hb1 d4))
  go_ret
  exact⟨rfl,Tx.step hB hb1⟩
 ·have t0:((y:Int) != 0)=true:=bne_iff_ne.2 h0
  by_cases h1:ya≤(y:Int)
  ·have t1:(y:Int) ≥ ya:=h1
   by_cases h2:(y:Int)≤yb
   ·have hb2:b=true:=by rw[← hb,decide_eq_false h0,decide_eq_true h1,decide_eq_true h2];rfl
    subst hb2
    clear hb h0
    go_enter Kl,JG
    go_wp2_with (go_at_call 113;((with_reducible refine HY.out.mono ?_);rintro e w1 ⟨rfl,hb1⟩;have d3':=A0 hb1 d3;have d4':=A0 hb1 d4))
    go_ret
    exact⟨rfl,Tx.step hB hb1⟩
   ·have hb2:b=false:=by rw[← hb,decide_eq_false h0,decide_eq_true h1,decide_eq_false h2];rfl
    subst hb2
    clear hb h0
    go_enter Kl,JG
    go_wp2_with (go_at_call 113;((with_reducible refine HY.out.mono ?_);rintro e w1 ⟨rfl,hb1⟩;have d3':=A0 hb1 d3;have d4':=A0 hb1 d4))
    go_ret
    exact⟨Tx.retb (by first | rfl | simp[h2]),Tx.step hB hb1⟩
  ·have hb2:b=false:=by rw[← hb,decide_eq_false h0,decide_eq_false h1];rfl
   have t1:¬ (y:Int) ≥ ya:=h1
   subst hb2
   clear hb h0
   go_enter Kl,JG
   go_wp2_with (go_at_call 113;((with_reducible refine HY.out.mono ?_);rintro e w1 ⟨rfl,hb1⟩;have d3':=A0 hb1 d3;have d4':=A0 hb1 d4))
   go_ret
   exact⟨Tx.retb (by first | rfl | simp[h1]),Tx.step hB hb1⟩
theorem r22_Has_c (xs:List Int) (n:Int) (a:Option Addr) (c:Nat) (w:World) (h:Ix.IA w a c xs) :
  Calls Tryz.prog 51 #[.slice a xs.length c,.int .i64 n] w fun e w'=>e=.returned (.bool (decide (n∈xs)))∧w'=w:=by
 obtain⟨r,hr⟩:∃ r,decide (n∈xs)=r:=⟨_,rfl⟩
 rw[hr]
 have HR:=J hr
 have HS:=J h
 have hcap:=h.cap
 have hmax:=h.max
 unfold maxLen at hmax
 clear hr h
 go_enter Tryz.func51,Tryz.ntmps51
 go_wp2
 go_loop [5] (fun i=>∃ k:Nat,k≤xs.length∧i=.int .i64 k∧Hid (n ∉ xs.take k)) (fun i=>xs.length - (intOf i).toNat)
 case atStart=>exact⟨0,Nat.zero_le _,by go_num,J (by simp)⟩
 case round =>
  obtain⟨k,hk,rfl,hN⟩:=hrel
  by_cases hlt:k<xs.length
  ·obtain⟨y,hy⟩:∃ y,xs[k]?=some y:=⟨_,List.getElem?_eq_getElem hlt⟩
   obtain⟨b,o,rfl,hbl,f0⟩:=Ix.IA.cell HS.out hy
   have htk:xs.take (k+1)=xs.take k++[y]:=by rw[List.take_add_one,hy];rfl
   have hmem:y∈xs:=List.mem_of_getElem? hy
   by_cases hq:y=n
   ·have hq2:(y == n)=true:=beq_iff_eq.2 hq
    have hrt:r=true:=by rw[← HR.out];exact decide_eq_true (hq▸hmem)
    subst hrt
    clear htk hmem hy hq
    go_wp2
    go_ret
    exact⟨rfl,rfl⟩
   ·have hq2:(y == n)=false:=beq_eq_false_iff_ne.2 hq
    have HN:Hid (n ∉ xs.take (k+1)):=J (by
     rw[htk,List.mem_append,List.mem_singleton]
     rintro (h9 | h9)
     ·exact hN.out h9
     ·exact hq h9.symm)
    clear htk hmem hy hq
    go_wp2
    go_round
    case rel=>exact⟨k+1,hlt,by go_num,HN⟩
    case measure=>simp[intOf];omega
  ·obtain rfl:k=xs.length:=by omega
   have hrf:r=false:=by rw[← HR.out];exact decide_eq_false (by have:=hN.out;rwa [List.take_length]at this)
   subst hrf
   go_wp2
   go_ret
   exact⟨rfl,rfl⟩
end Go.Proofs.YtlakomilichhnaaGreatDoor
