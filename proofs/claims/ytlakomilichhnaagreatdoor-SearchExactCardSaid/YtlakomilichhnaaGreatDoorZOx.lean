/- Texts of this seat's, what the claim needs of them. -/
import Derived.Test.YtlakomilichhnaaGreatDoorZOr
import Derived.Test.YtlakomilichhnaaGreatDoorZOp
namespace Go.Proofs.YtlakomilichhnaaGreatDoor
set_option maxHeartbeats 3200000
set_option maxRecDepth 100000
open Go.RowKit
open Go renaming Calls→Ac,World→A9,cell_later→A0,maxLen→Au
open Lib renaming hid→J
open List renaming getD_eq_getElem?_getD→Bc,getElem?_eq_getElem→A7,length→Cd,length_map→At,mem_of_getElem?→Ag,take_length→Ap,take_zero→Bt
open Nat renaming le_refl→An,le_trans→AK,zero_le→Ae
open Option renaming none→A4,some→A2
open Proofs.Tryz renaming func253→Mc,ntmps253→Lj,prog→A3
open Qr renaming QC→BY,Qy→BK,isWord→DW,rightE→F9,treeE→Eu,treeL→De
open RowKit renaming Below→A6,intOf→Ad
open Tx renaming newb→Aa,ret1→Av,valid→AL,words→Bh
theorem below_drewN {w:A9}{q:Nat}:A6 w.heap.size w (w.drewN q):=⟨rfl,rfl,rfl,An _,fun _ _=>rfl⟩
theorem Equal_c (v1 v2:Value) (xs ys:List ByteArray) (w:A9) (h1:SL w v1 xs) (h2:SL w v2 ys) (hn1:xs.length≤1000000000) (hn2:ys.length≤1000000000) :
  Ac A3 136 #[v1,v2] w fun e w'=>e=.returned (.bool (decide (xs=ys)))∧A6 w.heap.size w w':=by
 obtain⟨a1,k1,rfl,g1⟩:=h1.sla
 obtain⟨a2,k2,rfl,g2⟩:=h2.sla
 by_cases hx:xs=[]
 ·subst hx
  refine (Tryz.slices_Equal_string_empty a1 a2 k1 ys.length k2 w (by omega)).mono ?_
  rintro e w' ⟨rfl,rfl⟩
  refine⟨Tx.retb ?_,Below.refl _ _⟩
  cases ys <;> simp
 ·have S1:=g1 hx
  by_cases hy:ys=[]
  ·subst hy
   have hlen:¬ ((xs.length:Int)=0):=by
    intro h
    exact hx (List.eq_nil_of_length_eq_zero (by omega))
   have hd:decide (xs=[])=false:=by simpa using hx
   have HD:=J hd;clear hd
   clear h1 h2 g1 g2 S1 hx
   go_enter Tryz.func136,Tryz.ntmps136
   go_wp2
   go_ret
   exact⟨Tx.retb HD.out.symm,Below.refl _ _⟩
  ·have S2:=g2 hy
   obtain⟨b1,o1,hat1,hc1⟩:=S1.at_
   obtain⟨b2,o2,hat2,hc2⟩:=S2.at_
   obtain⟨rfl,_⟩:=hat1 hx
   obtain⟨rfl,_⟩:=hat2 hy
   refine (Tryz.slices_Equal_string b1 o1 xs.length k1 b2 o2 ys.length k2 xs ys w (An _) (An _) (by omega) (by omega) (fun j hj=>?_) (fun j hj=>?_)).mono ?_
   ·exact hc1 j _ (by rw[Bc,A7 hj];rfl)
   ·exact hc2 j _ (by rw[Bc,A7 hj];rfl)
   ·rintro e w' ⟨rfl,q,rfl⟩
    exact⟨Tx.retb (by rw[Ap,Ap]),below_drewN⟩
theorem Tx.words_len {l:List UInt8} (hv:AL l=true):(Bh l).length≤2*l.length :=
 AK (Tx.fieldsT_good Tx.sepW (Tx.foldS_valid hv)).2.2 (Tx.foldS_len hv)
theorem SL_one (w:A9) (x:ByteArray) (t:TypeId):SL (w.alloc (.cells #[.string x] t)) (.slice (A2 ⟨w.heap.size,0,A4⟩) 1 1) [x]:=by
 refine .inr ⟨_,0,1,rfl,by simp,by unfold Au;omega,by simp,fun j y hy=>?_⟩
 match j,hy with
 | 0,hy=>injection hy with hy;rw[← hy];simp
 | j+1,hy=>simp at hy
namespace Qr
theorem QC.sla {B:Nat}{w:A9}{op fl ya yb:Int}{ws:List ByteArray}{ks:List Qy}{sa ka:Option Addr}{sc kc:Nat}
  (h:QC B w (.mk op fl ws ya yb ks) [.int .i64 op,.int .i64 fl,.slice sa ws.length sc,.int .i64 ya,.int .i64 yb,.slice ka ks.length kc]) :
  SL w (.slice sa ws.length sc) ws∧(ws≠[]→SLA w sa sc ws)∧LowS B (.slice sa ws.length sc) ws∧KA B w ka kc ks:=by
 cases h with
 | mk hw hwb hl hk hf hfb =>
  refine⟨hw,fun hne=>?_,hwb,⟨_,hl,hk,hf,hfb⟩⟩
  obtain⟨a,c,e,h1⟩:=hw.sla
  injection e with e1 _ e2
  subst e1;subst e2
  exact h1 hne
theorem termE_3 {o f a b:Int}{ws:List ByteArray}{n:Nat} (h:ws.length<1∨(o≠3∧1<ws.length)∨a≠0∨b≠0∨0<n):termE o f ws a b n=3:=by unfold termE;rw[if_pos h]
theorem termE_w {o f a b:Int}{ws:List ByteArray}{n:Nat} (h:ws.all isWord=false):termE o f ws a b n=3:=by
 unfold termE
 rw[h]
 split <;> rfl
theorem termE_r {o f a b:Int}{ws:List ByteArray}{n:Nat} (h:¬ (ws.length<1∨(o≠3∧1<ws.length)∨a≠0∨b≠0∨0<n)) (hw:ws.all isWord=true):termE o f ws a b n=if 8<ws.length then 4 else if f<0∨4<f then 2 else 0:=by
 unfold termE
 rw[if_neg h,if_neg (by simp[hw])]
theorem all_take {α:Type}{p:α→Bool}{l:List α}{k:Nat}{x:α} (h:l[k]?=A2 x) (ha:(l.take k).all p=true) (hx:p x=true):(l.take (k+1)).all p=true:=by
 rw[take_snoc h,List.all_append,ha]
 simp[hx]
theorem all_bad {α:Type}{p:α→Bool}{l:List α}{k:Nat}{x:α} (h:l[k]?=A2 x) (hx:p x=false):l.all p=false:=by
 rw[List.all_eq_false]
 exact⟨x,Ag h,by simp[hx]⟩
theorem words_one {xs:List ByteArray}{s:ByteArray} (h:xs.map (·.data.toList)=Bh s.data.toList):decide (xs=[s])=(Bh s.data.toList == [s.data.toList]):=by
 rw[← h,Bool.eq_iff_iff,decide_eq_true_iff,beq_iff_eq]
 constructor
 ·rintro rfl;rfl
 ·intro e
  rcases xs with _ | ⟨x,_ | ⟨y,r⟩⟩
  ·simp at e
  ·simp only[List.map_cons,List.map_nil,List.cons.injEq,and_true]at e
   have:x=s:=by
    cases x;cases s
    simp only[ByteArray.mk.injEq]at *
    exact Array.toList_inj.1 e
   rw[this]
  ·simp at e
end Qr
theorem checkTerm_c (B:Nat) (op fl ya yb:Int) (ws:List ByteArray) (ks:List BK) (sa ka:Option Addr) (sc kc:Nat) (w:A9) (h:BY B w (.mk op fl ws ya yb ks) [.int .i64 op,.int .i64 fl,.slice sa ws.length sc,.int .i64 ya,.int .i64 yb,.slice ka ks.length kc])
    (hz:∀ x∈ws,x.size≤1000000) (hG:G w) :
    Ac A3 253 #[.agg #[.int .i64 op,.int .i64 fl,.slice sa ws.length sc,.int .i64 ya,.int .i64 yb,.slice ka ks.length kc]] w fun e w'=>e=.returned (.int .i64 (Qr.termE op fl ws ya yb ks.length))∧A6 w.heap.size w w':=by
  obtain⟨_,hA,_,hK⟩:=h.sla
  have HZ:=J hz;clear hz
  have hkmax:=hK.max
  have hmx:Au=9223372036854775807:=rfl
  have hwmax:ws.length≤9223372036854775807:=by
    by_cases hne:ws=[]
    · rw[hne];decide
    · have:=(hA hne).cap;have:=(hA hne).max;omega
  clear h
  obtain⟨W,hW⟩:∃ W,w.alloc (.cells #[.int .i64 op,.int .i64 fl,.slice sa ws.length sc,.int .i64 ya,.int .i64 yb,.slice ka ks.length kc] 29)=W:=⟨_,rfl⟩
  have hB:A6 w.heap.size w W:=by rw[← hW];exact Aa _ _
  have c0:W.cell? ⟨w.heap.size,0,A4⟩=A2 (.int .i64 op):=by rw[← hW];simp
  have c1:W.cell? ⟨w.heap.size,1,A4⟩=A2 (.int .i64 fl):=by rw[← hW];simp
  have c2:W.cell? ⟨w.heap.size,2,A4⟩=A2 (.slice sa ws.length sc):=by rw[← hW];simp
  have c3:W.cell? ⟨w.heap.size,3,A4⟩=A2 (.int .i64 ya):=by rw[← hW];simp
  have c4:W.cell? ⟨w.heap.size,4,A4⟩=A2 (.int .i64 yb):=by rw[← hW];simp
  have c5:W.cell? ⟨w.heap.size,5,A4⟩=A2 (.slice ka ks.length kc):=by rw[← hW];simp
  by_cases g:ws.length<1∨(op≠3∧1<ws.length)∨ya≠0∨yb≠0∨0<ks.length
  · have HE:=J (Qr.termE_3 (f:=fl) g)
    rcases g with g | ⟨g,g2⟩ | g | g | g
    · go_enter Mc,Lj
      go_wp2
      all_goals (go_ret;exact⟨Av HE.out.symm,hB⟩)
    · go_enter Mc,Lj
      go_wp2
      all_goals (go_ret;exact⟨Av HE.out.symm,hB⟩)
    · go_enter Mc,Lj
      go_wp2
      all_goals (go_ret;exact⟨Av HE.out.symm,hB⟩)
    · go_enter Mc,Lj
      go_wp2
      all_goals (go_ret;exact⟨Av HE.out.symm,hB⟩)
    · go_enter Mc,Lj
      go_wp2
      all_goals (go_ret;exact⟨Av HE.out.symm,hB⟩)
  · have HR:=J (Qr.termE_r (f:=fl) g)
    have HW0:=J (fun hw=>Qr.termE_w (o:=op) (f:=fl) (a:=ya) (b:=yb) (ws:=ws) (n:=ks.length) hw)
    have g1:1≤ws.length:=by omega
    have g3:ya=0:=by omega
    have g4:yb=0:=by omega
    have g5:ks.length=0:=by omega
    have g2:op=3∨(op≠3∧¬ 1<ws.length):=by omega
    clear g
    rw[g5]at HR HW0 c5 hkmax hW ⊢
    subst g3;subst g4
    have hKl:=J hK;clear hK g5
    rcases g2 with rfl | ⟨g2,g6⟩
    all_goals (
      go_enter Mc,Lj
      go_wp2
      clear hW c0 c3 c4 c5
      go_loopw [39] (fun i wr=>∃ k:Nat,k≤ws.length∧i=.int .i64 k∧Hid ((ws.take k).all DW=true)∧A6 W.heap.size W wr) (fun i _=>ws.length - (Ad i).toNat)
      case atStart=>exact⟨0,Ae _,rfl,J (by rw[Bt];rfl),Below.refl _ _⟩
      case round =>
        obtain⟨k,hk,rfl,hall,hb⟩:=hrel
        have e1:=A0 hb c1
        have e2:=A0 hb c2
        have hGr:G wr:=hG.below (hB.trans (hb.mono hB.size))
        by_cases hlt:k<ws.length
        · obtain⟨x,hx⟩:∃ x,ws[k]?=A2 x:=⟨_,A7 hlt⟩
          have hne:ws≠[]:=by intro h0;rw[h0]at hlt;simp at hlt
          obtain⟨b,o,rfl,hbl,d0⟩:=(((hA hne).below hB).below hb).get hx
          have hxz:=HZ.out x (Ag hx)
          have HX:=J hx;clear hx hne
          by_cases hv:AL x.data.toList=true
          · obtain⟨t,ht⟩:∃ t,(Bh x.data.toList == [x.data.toList])=t:=⟨_,rfl⟩
            have HT:=J ht;clear ht
            have HV:=J hv;clear hv
            have hwl:=Tx.words_len HV.out
            cases t with
            | true =>
              go_wp2_with (first
                |(go_at_call 114;refine (text_Valid_c x _ (by omega) hGr).mono ?_;rintro e w1 ⟨rfl,hb1⟩;rw[HV.out])
                |(go_at_call 208;refine (text_Words_c x _ (hGr.below hb1) (by omega) HV.out).mono ?_;rintro e w2 ⟨A,xs,rfl,hws,hWA,hAl,hb2⟩;have HWS:=J hws;clear hws;have hxl:xs.length≤1000000000:=(by have:=congrArg Cd HWS.out;rw[At]at this;rw[this,Lib.size_eq]at *;omega))
                |(go_at_call 136;refine (Equal_c _ _ xs [x] _ (hWA.sl.below (Aa _ _)) (SL_one _ _ _) hxl (by simp)).mono ?_;rintro e w3 ⟨rfl,hb3⟩;rw[Qr.words_one HWS.out,HT.out]))
              go_roundw
              case rel=>exact⟨k+1,hlt,by go_num,J (Qr.all_take HX.out hall.out (by unfold DW;rw[HV.out,HT.out];rfl)),hb.trans ((hb1.trans ((hb2.trans (((Aa _ _).trans (hb3.mono (by simp))).mono hb2.size)).mono hb1.size)).mono hb.size)⟩
              case measure=>simp[Ad];omega
            | false =>
              go_wp2_with (first
                |(go_at_call 114;refine (text_Valid_c x _ (by omega) hGr).mono ?_;rintro e w1 ⟨rfl,hb1⟩;rw[HV.out])
                |(go_at_call 208;refine (text_Words_c x _ (hGr.below hb1) (by omega) HV.out).mono ?_;rintro e w2 ⟨A,xs,rfl,hws,hWA,hAl,hb2⟩;have HWS:=J hws;clear hws;have hxl:xs.length≤1000000000:=(by have:=congrArg Cd HWS.out;rw[At]at this;rw[this,Lib.size_eq]at *;omega))
                |(go_at_call 136;refine (Equal_c _ _ xs [x] _ (hWA.sl.below (Aa _ _)) (SL_one _ _ _) hxl (by simp)).mono ?_;rintro e w3 ⟨rfl,hb3⟩;rw[Qr.words_one HWS.out,HT.out]))
              go_ret
              exact⟨Av (HW0.out (Qr.all_bad HX.out (by unfold DW;rw[HV.out,HT.out];rfl))).symm,hB.trans ((hb.trans ((hb1.trans ((hb2.trans (((Aa _ _).trans (hb3.mono (by simp))).mono hb2.size)).mono hb1.size)).mono hb.size)).mono hB.size)⟩
          · have hv':AL x.data.toList=false:=by simpa using hv
            have HV:=J hv';clear hv hv'
            go_wp2_with (go_at_call 114;refine (text_Valid_c x _ (by omega) hGr).mono ?_;rintro e w1 ⟨rfl,hb1⟩;rw[HV.out])
            go_ret
            exact⟨Av (HW0.out (Qr.all_bad HX.out (by unfold DW;rw[HV.out];rfl))).symm,hB.trans ((hb.trans (hb1.mono hb.size)).mono hB.size)⟩
        · have hkk:k=ws.length:=by omega
          subst hkk
          have hal:=hall.out
          rw[Ap]at hal
          have HE:=J (HR.out hal)
          clear hall hal
          by_cases l1:8<ws.length
          · first
              |(exfalso;omega)
              | (go_wp2
                 go_ret
                 exact⟨Av (by rw[HE.out,if_pos l1]),hB.trans (hb.mono hB.size)⟩)
          · by_cases l2:fl<0
            · go_wp2
              go_ret
              exact⟨Av (by rw[HE.out,if_neg l1,if_pos (.inl l2)]),hB.trans (hb.mono hB.size)⟩
            · by_cases l3:4<fl
              · go_wp2
                go_ret
                exact⟨Av (by rw[HE.out,if_neg l1,if_pos (.inr l3)]),hB.trans (hb.mono hB.size)⟩
              · go_wp2
                go_ret
                exact⟨Av (by rw[HE.out,if_neg l1,if_neg (by omega)]),hB.trans (hb.mono hB.size)⟩)
namespace Qr
theorem yearsE_3 {f a b:Int}{ws:List ByteArray}{n:Nat} (h:f≠0∨0<ws.length∨0<n):yearsE f ws a b n=3:=by unfold yearsE;rw[if_pos h]
theorem yearsE_2 {f a b:Int}{ws:List ByteArray}{n:Nat} (h:¬ (f≠0∨0<ws.length∨0<n)) (h2:a<1∨b<a∨2199<b):yearsE f ws a b n=2:=by unfold yearsE;rw[if_neg h,if_pos h2]
theorem yearsE_0 {f a b:Int}{ws:List ByteArray}{n:Nat} (h:¬ (f≠0∨0<ws.length∨0<n)) (h2:¬ (a<1∨b<a∨2199<b)):yearsE f ws a b n=0:=by unfold yearsE;rw[if_neg h,if_neg h2]
theorem kidsE_3 {o f a b:Int}{ws:List ByteArray}{ks:List Qy} (h:f≠0∨a≠0∨b≠0∨0<ws.length∨ks.length<2∨(o=7∧2<ks.length)):kidsE o f ws a b ks=3:=by unfold kidsE;rw[if_pos h]
theorem kidsE_7 {o f a b:Int}{ws:List ByteArray}{ks:List Qy} (h:¬ (f≠0∨a≠0∨b≠0∨0<ws.length∨ks.length<2∨(o=7∧2<ks.length))) (h7:o=7):kidsE o f ws a b ks=0:=by unfold kidsE;rw[if_neg h,if_pos h7]
theorem kidsE_r {o f a b:Int}{ws:List ByteArray}{ks:List Qy} (h:¬ (f≠0∨a≠0∨b≠0∨0<ws.length∨ks.length<2∨(o=7∧2<ks.length))) (h7:o≠7):kidsE o f ws a b ks=if ks.any (fun k=>decide (k.op=o))=true then 3 else if 8<ks.length then 4 else 0:=by unfold kidsE;rw[if_neg h,if_neg h7]
theorem any_take {α:Type}{p:α→Bool}{l:List α}{k:Nat}{x:α} (h:l[k]?=A2 x) (ha:(l.take k).any p=false) (hx:p x=false):(l.take (k+1)).any p=false:=by
 rw[take_snoc h,List.any_append,ha]
 simp[hx]
theorem any_hit {α:Type}{p:α→Bool}{l:List α}{k:Nat}{x:α} (h:l[k]?=A2 x) (hx:p x=true):l.any p=true:=List.any_eq_true.2 ⟨x,Ag h,hx⟩
end Qr
theorem checkYears_c (B:Nat) (op fl ya yb:Int) (ws:List ByteArray) (ks:List BK) (sa ka:Option Addr) (sc kc:Nat) (w:A9) (h:BY B w (.mk op fl ws ya yb ks) [.int .i64 op,.int .i64 fl,.slice sa ws.length sc,.int .i64 ya,.int .i64 yb,.slice ka ks.length kc]) :
  Ac A3 254 #[.agg #[.int .i64 op,.int .i64 fl,.slice sa ws.length sc,.int .i64 ya,.int .i64 yb,.slice ka ks.length kc]] w fun e w'=>e=.returned (.int .i64 (Qr.yearsE fl ws ya yb ks.length))∧A6 w.heap.size w w':=by
 obtain⟨_,hA,_,hK⟩:=h.sla
 have hkmax:=hK.max
 have hmx:Au=9223372036854775807:=rfl
 have hwmax:ws.length≤9223372036854775807:=by
  by_cases hne:ws=[]
  ·rw[hne];decide
  ·have:=(hA hne).cap;have:=(hA hne).max;omega
 clear h hA hK
 obtain⟨W,hW⟩:∃ W,w.alloc (.cells #[.int .i64 op,.int .i64 fl,.slice sa ws.length sc,.int .i64 ya,.int .i64 yb,.slice ka ks.length kc] 29)=W:=⟨_,rfl⟩
 have hB:A6 w.heap.size w W:=by rw[← hW];exact Aa _ _
 have c0:W.cell? ⟨w.heap.size,0,A4⟩=A2 (.int .i64 op):=by rw[← hW];simp
 have c1:W.cell? ⟨w.heap.size,1,A4⟩=A2 (.int .i64 fl):=by rw[← hW];simp
 have c2:W.cell? ⟨w.heap.size,2,A4⟩=A2 (.slice sa ws.length sc):=by rw[← hW];simp
 have c3:W.cell? ⟨w.heap.size,3,A4⟩=A2 (.int .i64 ya):=by rw[← hW];simp
 have c4:W.cell? ⟨w.heap.size,4,A4⟩=A2 (.int .i64 yb):=by rw[← hW];simp
 have c5:W.cell? ⟨w.heap.size,5,A4⟩=A2 (.slice ka ks.length kc):=by rw[← hW];simp
 by_cases g:fl≠0∨0<ws.length∨0<ks.length
 ·have HE:=J (Qr.yearsE_3 (a:=ya) (b:=yb) g)
  rcases (show fl≠0∨(fl=0∧0<ws.length)∨(fl=0∧¬ 0<ws.length∧0<ks.length) by omega) with g1 | ⟨rfl,g2⟩ | ⟨rfl,g2,g3⟩
  all_goals
   clear g
   go_enter Tryz.func254,Tryz.ntmps254
   go_wp2
   go_ret
   exact⟨Av HE.out.symm,hB⟩
 ·have g1:fl=0:=by omega
  have g2:¬ 0<ws.length:=by omega
  have g3:¬ 0<ks.length:=by omega
  by_cases g':ya<1∨yb<ya∨2199<yb
  ·have HE:=J (Qr.yearsE_2 g g')
   clear g
   subst g1
   rcases (show ya<1∨(¬ ya<1∧yb<ya)∨(¬ ya<1∧¬ yb<ya∧2199<yb) by omega) with g1 | ⟨g1,g4⟩ | ⟨g1,g4,g5⟩
   all_goals
    clear g'
    go_enter Tryz.func254,Tryz.ntmps254
    go_wp2
    go_ret
    exact⟨Av HE.out.symm,hB⟩
  ·have HE:=J (Qr.yearsE_0 g g')
   clear g
   subst g1
   have y1:¬ ya<1:=by omega
   have y2:¬ yb<ya:=by omega
   have y3:¬ 2199<yb:=by omega
   clear g'
   go_enter Tryz.func254,Tryz.ntmps254
   go_wp2
   go_ret
   exact⟨Av HE.out.symm,hB⟩
theorem checkKids_c (B:Nat) (op fl ya yb:Int) (ws:List ByteArray) (ks:List BK) (sa ka:Option Addr) (sc kc:Nat) (w:A9) (h:BY B w (.mk op fl ws ya yb ks) [.int .i64 op,.int .i64 fl,.slice sa ws.length sc,.int .i64 ya,.int .i64 yb,.slice ka ks.length kc]) :
  Ac A3 255 #[.agg #[.int .i64 op,.int .i64 fl,.slice sa ws.length sc,.int .i64 ya,.int .i64 yb,.slice ka ks.length kc]] w fun e w'=>e=.returned (.int .i64 (Qr.kidsE op fl ws ya yb ks))∧A6 w.heap.size w w':=by
 obtain⟨_,hA,_,hK⟩:=h.sla
 have hkmax:=hK.max
 have hmx:Au=9223372036854775807:=rfl
 have hwmax:ws.length≤9223372036854775807:=by
  by_cases hne:ws=[]
  ·rw[hne];decide
  ·have:=(hA hne).cap;have:=(hA hne).max;omega
 clear h hA
 obtain⟨W,hW⟩:∃ W,w.alloc (.cells #[.int .i64 op,.int .i64 fl,.slice sa ws.length sc,.int .i64 ya,.int .i64 yb,.slice ka ks.length kc] 29)=W:=⟨_,rfl⟩
 have hB:A6 w.heap.size w W:=by rw[← hW];exact Aa _ _
 have c0:W.cell? ⟨w.heap.size,0,A4⟩=A2 (.int .i64 op):=by rw[← hW];simp
 have c1:W.cell? ⟨w.heap.size,1,A4⟩=A2 (.int .i64 fl):=by rw[← hW];simp
 have c2:W.cell? ⟨w.heap.size,2,A4⟩=A2 (.slice sa ws.length sc):=by rw[← hW];simp
 have c3:W.cell? ⟨w.heap.size,3,A4⟩=A2 (.int .i64 ya):=by rw[← hW];simp
 have c4:W.cell? ⟨w.heap.size,4,A4⟩=A2 (.int .i64 yb):=by rw[← hW];simp
 have c5:W.cell? ⟨w.heap.size,5,A4⟩=A2 (.slice ka ks.length kc):=by rw[← hW];simp
 by_cases g:fl≠0∨ya≠0∨yb≠0∨0<ws.length∨ks.length<2∨(op=7∧2<ks.length)
 ·have HE:=J (Qr.kidsE_3 g)
  clear hK
  rcases (show fl≠0∨(fl=0∧ya≠0)∨(fl=0∧ya=0∧yb≠0)∨(fl=0∧ya=0∧yb=0∧0<ws.length)∨(fl=0∧ya=0∧yb=0∧¬ 0<ws.length∧ks.length<2)∨(fl=0∧ya=0∧yb=0∧¬ 0<ws.length∧¬ ks.length<2∧op=7∧2<ks.length) by omega) with g1 | ⟨rfl,g2⟩ | ⟨rfl,rfl,g3⟩ | ⟨rfl,rfl,rfl,g4⟩ | ⟨rfl,rfl,rfl,g4,g5⟩ | ⟨rfl,rfl,rfl,g4,g5,rfl,g6⟩
  all_goals
   clear g
   go_enter Tryz.func255,Tryz.ntmps255
   go_wp2
   go_ret
   exact⟨Av HE.out.symm,hB⟩
 ·have g1:fl=0:=by omega
  have g2:ya=0:=by omega
  have g3:yb=0:=by omega
  have g4:¬ 0<ws.length:=by omega
  have g5:¬ ks.length<2:=by omega
  by_cases g7:op=7
  ·have HE:=J (Qr.kidsE_7 g g7)
   have g8:¬ 2<ks.length:=by omega
   clear g hK
   subst g1;subst g2;subst g3;subst g7
   go_enter Tryz.func255,Tryz.ntmps255
   go_wp2
   go_ret
   exact⟨Av HE.out.symm,hB⟩
  ·have HE:=J (Qr.kidsE_r g g7)
   clear g
   subst g1;subst g2;subst g3
   have hS:=hK.below hB
   clear hK
   go_enter Tryz.func255,Tryz.ntmps255
   go_wp2
   clear hW c1 c2 c3 c4
   go_loopw [47] (fun i wr=>∃ k:Nat,k≤ks.length∧i=.int .i64 k∧Hid ((ks.take k).any (fun k=>decide (k.op=op))=false)∧A6 W.heap.size W wr) (fun i _=>ks.length - (Ad i).toNat)
   case atStart=>exact⟨0,Ae _,rfl,J (by rw[Bt];rfl),Below.refl _ _⟩
   case round =>
    obtain⟨k,hk,rfl,hall,hb⟩:=hrel
    have e0:=A0 hb c0
    have e5:=A0 hb c5
    by_cases hlt:k<ks.length
    ·obtain⟨x,hx⟩:∃ x,ks[k]?=A2 x:=⟨_,A7 hlt⟩
     obtain⟨b,o,sa2,sc2,ka2,kc2,rfl,hbl,d0,d1,d2,d3,d4,d5,hq⟩:=(hS.below hb).get hx
     have HX:=J hx;clear hx hq
     by_cases hxo:x.op=op
     ·have HO:=J hxo
      rw[hxo]at d0
      clear hxo
      have f0:(wr.alloc (.cells #[.int .i64 op,.int .i64 x.fld,.slice sa2 x.ws.length sc2,.int .i64 x.a,.int .i64 x.b,.slice ka2 x.ks.length kc2] 29)).cell? ⟨w.heap.size,0,A4⟩=A2 (.int .i64 op):=A0 (Aa _ _) e0
      go_wp2
      go_ret
      exact⟨Av (by rw[HE.out,if_pos (Qr.any_hit HX.out (by simpa using HO.out))]),hB.trans ((hb.trans ((Aa _ _).mono hb.size)).mono hB.size)⟩
     ·have f0:(wr.alloc (.cells #[.int .i64 x.op,.int .i64 x.fld,.slice sa2 x.ws.length sc2,.int .i64 x.a,.int .i64 x.b,.slice ka2 x.ks.length kc2] 29)).cell? ⟨w.heap.size,0,A4⟩=A2 (.int .i64 op):=A0 (Aa _ _) e0
      go_wp2
      go_roundw
      case rel=>exact⟨k+1,hlt,by go_num,J (Qr.any_take HX.out hall.out (by simpa using hxo)),hb.trans ((Aa _ _).mono hb.size)⟩
      case measure=>simp[Ad];omega
    ·have hkk:k=ks.length:=by omega
     subst hkk
     have hal:=hall.out
     rw[Ap]at hal
     have HA:=J hal
     clear hall hal
     by_cases l1:8<ks.length
     ·go_wp2
      go_ret
      exact⟨Av (by rw[HE.out,HA.out,if_neg (by simp),if_pos l1]),hB.trans (hb.mono hB.size)⟩
     ·go_wp2
      go_ret
      exact⟨Av (by rw[HE.out,HA.out,if_neg (by simp),if_neg l1]),hB.trans (hb.mono hB.size)⟩
namespace Qr
inductive Wz (M:Nat):Qy→Prop
 | mk {op f a b:Int}{ws:List ByteArray}{ks:List Qy} (h1:∀ x∈ws,x.size≤M) (h2:∀ k∈ks,Wz M k):Wz M (.mk op f ws a b ks)
theorem Wz.ws {M:Nat}{op f a b:Int}{ws:List ByteArray}{ks:List Qy} (h:Wz M (.mk op f ws a b ks)):∀ x∈ws,x.size≤M:=by cases h;assumption
theorem Wz.ks {M:Nat}{op f a b:Int}{ws:List ByteArray}{ks:List Qy} (h:Wz M (.mk op f ws a b ks)):∀ k∈ks,Wz M k:=by cases h;assumption
theorem nodeE_t {o f a b:Int}{ws:List ByteArray}{ks:List Qy} (h:o=1∨o=2∨o=3):nodeE (.mk o f ws a b ks)=termE o f ws a b ks.length:=by simp only[nodeE];rw[if_pos h]
theorem nodeE_y {f a b:Int}{ws:List ByteArray}{ks:List Qy}:nodeE (.mk 4 f ws a b ks)=yearsE f ws a b ks.length:=by simp[nodeE]
theorem nodeE_k {o f a b:Int}{ws:List ByteArray}{ks:List Qy} (h:o=5∨o=6∨o=7):nodeE (.mk o f ws a b ks)=kidsE o f ws a b ks:=by simp only[nodeE];rw[if_neg (by omega),if_neg (by omega),if_pos h]
theorem nodeE_f {o f a b:Int}{ws:List ByteArray}{ks:List Qy} (h:¬ (o=1∨o=2∨o=3∨o=4∨o=5∨o=6∨o=7)):nodeE (.mk o f ws a b ks)=3:=by simp only[nodeE];rw[if_neg (by omega),if_neg (by omega),if_neg (by omega)]
end Qr
theorem check_c (B:Nat):∀ (q:BK) (cs:List Value) (w:A9),BY B w q cs→Qr.Wz 1000000 q→G w →
  Ac A3 200 #[.agg cs.toArray] w fun e w'=>e=.returned (.int .i64 (Eu q))∧A6 w.heap.size w w':=by
 refine Qr.Qy.ind ?_
 intro op fl ws ya yb ks ih cs w h hn hG
 obtain⟨sa,sc,ka,kc,rfl,_,_,hK⟩:=h.kids
 dsimp only[Qr.Qy.op,Qr.Qy.fld,Qr.Qy.a,Qr.Qy.b,Qr.Qy.ks,Qr.Qy.ws]at hK h ⊢
 have IH:=J ih;clear ih
 obtain⟨W,hW⟩:∃ W,w.alloc (.cells #[.int .i64 op,.int .i64 fl,.slice sa ws.length sc,.int .i64 ya,.int .i64 yb,.slice ka ks.length kc] 29)=W:=⟨_,rfl⟩
 have hB:A6 w.heap.size w W:=by rw[← hW];exact Aa _ _
 have c0:W.cell? ⟨w.heap.size,0,A4⟩=A2 (.int .i64 op):=by rw[← hW];simp
 have c1:W.cell? ⟨w.heap.size,1,A4⟩=A2 (.int .i64 fl):=by rw[← hW];simp
 have c2:W.cell? ⟨w.heap.size,2,A4⟩=A2 (.slice sa ws.length sc):=by rw[← hW];simp
 have c3:W.cell? ⟨w.heap.size,3,A4⟩=A2 (.int .i64 ya):=by rw[← hW];simp
 have c4:W.cell? ⟨w.heap.size,4,A4⟩=A2 (.int .i64 yb):=by rw[← hW];simp
 have c5:W.cell? ⟨w.heap.size,5,A4⟩=A2 (.slice ka ks.length kc):=by rw[← hW];simp
 have hS:=hK.below hB
 have hmax:=hK.max
 have hmx:Au=9223372036854775807:=rfl
 have hGW:=hG.below hB
 have HQ:=J (h.later hB);clear h hK
 have HN:=J hn;clear hn
 have HT:Hid (Eu (.mk op fl ws ya yb ks)=De (Qr.nodeE (.mk op fl ws ya yb ks)) ks):=J (by rw[Eu])
 obtain⟨n0,hn0⟩:∃ n0,Qr.nodeE (.mk op fl ws ya yb ks)=n0:=⟨_,rfl⟩
 have H0:=J hn0;clear hn0
 have HE:∀ (k:Nat) (e:Int),De n0 (ks.take k)=e→Eu (.mk op fl ws ya yb ks)=De e (ks.drop k):=by
  intro k e he
  rw[HT.out,H0.out,← he,← Qr.treeL_app,List.take_append_drop]
 have HEE:=J HE;clear HE HT
 rcases (show op=1∨op=2∨op=3∨op=4∨op=5∨op=6∨op=7∨(op≠1∧op≠2∧op≠3∧op≠4∧op≠5∧op≠6∧op≠7) by omega) with rfl | rfl | rfl | rfl | rfl | rfl | rfl | ⟨h1,h2,h3,h4,h5,h6,h7⟩
 all_goals
  try (have b1:=beq_eq_false_iff_ne.2 h1;have b2:=beq_eq_false_iff_ne.2 h2;have b3:=beq_eq_false_iff_ne.2 h3;have b4:=beq_eq_false_iff_ne.2 h4;have b5:=beq_eq_false_iff_ne.2 h5;have b6:=beq_eq_false_iff_ne.2 h6;have b7:=beq_eq_false_iff_ne.2 h7)
  go_enter Tryz.func200,Tryz.ntmps200
  go_wp2_with (first
   |(go_at_call 253;refine (checkTerm_c B _ fl ya yb ws ks sa ka sc kc W HQ.out HN.out.ws hGW).mono ?_;rintro e w1 ⟨rfl,hb1⟩;rw[← Qr.nodeE_t (ks:=ks) (by decide),H0.out];have e5:=A0 hb1 c5)
   |(go_at_call 254;refine (checkYears_c B _ fl ya yb ws ks sa ka sc kc W HQ.out).mono ?_;rintro e w1 ⟨rfl,hb1⟩;rw[← Qr.nodeE_y (ks:=ks),H0.out];have e5:=A0 hb1 c5)
   |(go_at_call 255;refine (checkKids_c B _ fl ya yb ws ks sa ka sc kc W HQ.out).mono ?_;rintro e w1 ⟨rfl,hb1⟩;rw[← Qr.nodeE_k (ks:=ks) (by decide),H0.out];have e5:=A0 hb1 c5))
  clear hW c0 c1 c2 c3 c4 c5
  go_loopw [3,27] (fun n i wr=>∃ (k:Nat) (e:Int),k≤ks.length∧i=.int .i64 k∧n=.int .i64 e∧Hid (De n0 (ks.take k)=e)∧A6 W.heap.size W wr) (fun _ i _=>ks.length - (Ad i).toNat)
  case atStart=>exact⟨0,n0,Ae _,rfl,by first | rfl | (rw[← H0.out,Qr.nodeE_f (by omega)]),J (by rw[Bt,De]),by first | exact hb1 | exact Below.refl _ _⟩
  case round =>
   obtain⟨k,n,hk,rfl,rfl,hn,hb⟩:=hrel
   by_cases hlt:k<ks.length
   ·obtain⟨x,hx⟩:∃ x,ks[k]?=A2 x:=⟨_,A7 hlt⟩
    obtain⟨b,o,sa2,sc2,ka2,kc2,rfl,hbl,d0,d1,d2,d3,d4,d5,hq⟩:=(hS.below hb).get hx
    have hmem:=Ag hx
    have htk:=Qr.take_snoc hx
    have HM:=J hmem;clear hmem
    have HX:=J hq;clear hq
    have HTK:=J htk;clear htk hx
    have hGr:=hGW.below hb
    by_cases hn0:n=0
    ·subst hn0
     have hnx:De n0 (ks.take (k+1))=Eu x:=by rw[HTK.out,Qr.treeL_app,hn.out];simp[De]
     have HNX:=J hnx;clear hnx
     go_wp2_with (go_at_call 200;refine (IH.out x HM.out _ _ (HX.out.later (Aa _ _)) (HN.out.ks x HM.out) (hGr.below (Aa _ _))).mono ?_;rintro e w2 ⟨rfl,hb2⟩)
     go_roundw
     case rel=>exact⟨k+1,_,hlt,by go_num,rfl,HNX,hb.trans (((Aa _ _).trans (hb2.mono (by simp))).mono hb.size)⟩
     case measure=>simp[Ad];omega
    ·have hbad:=HEE.out _ _ hn.out
     rw[Qr.treeL_bad hn0]at hbad
     have HB:=J hbad;clear hbad
     go_wp2
     go_ret
     exact⟨Av HB.out.symm,hB.trans ((hb.trans ((Aa _ _).mono hb.size)).mono hB.size)⟩
   ·have hkk:k=ks.length:=by omega
    subst hkk
    have hend:=HEE.out _ _ hn.out
    rw[List.drop_length,De]at hend
    have HB:=J hend;clear hend
    go_wp2
    go_ret
    exact⟨Av HB.out.symm,hB.trans (hb.mono hB.size)⟩
theorem Right_c (B:Nat) (q:BK) (cs:List Value) (w:A9) (h:BY B w q cs) (hz:Qr.Wz 1000000 q) (hn:Qr.nodes q≤1000000000) (hG:G w) :
  Ac A3 118 #[.agg cs.toArray] w fun e w'=>e=.returned (.int .i64 (F9 q))∧A6 w.heap.size w w':=by
 obtain⟨sa,sc,ka,kc,e0,_,_,_⟩:=h.kids
 have hdn:=Qr.depth_nodes q
 obtain⟨op,hop⟩:∃ op,q.op=op:=⟨_,rfl⟩
 obtain⟨fl,hfl⟩:∃ fl,q.fld=fl:=⟨_,rfl⟩
 obtain⟨ya,hya⟩:∃ ya,q.a=ya:=⟨_,rfl⟩
 obtain⟨yb,hyb⟩:∃ yb,q.b=yb:=⟨_,rfl⟩
 obtain⟨ws,hws⟩:∃ ws,q.ws=ws:=⟨_,rfl⟩
 obtain⟨ks,hks⟩:∃ ks,q.ks=ks:=⟨_,rfl⟩
 rw[hop,hfl,hya,hyb,hws,hks]at e0
 clear hop hfl hya hyb hws hks
 subst e0
 obtain⟨W,hW⟩:∃ W,w.alloc (.cells #[.int .i64 op,.int .i64 fl,.slice sa ws.length sc,.int .i64 ya,.int .i64 yb,.slice ka ks.length kc] 29)=W:=⟨_,rfl⟩
 have hB:A6 w.heap.size w W:=by rw[← hW];exact Aa _ _
 have c0:W.cell? ⟨w.heap.size,0,A4⟩=A2 (.int .i64 op):=by rw[← hW];simp
 have c1:W.cell? ⟨w.heap.size,1,A4⟩=A2 (.int .i64 fl):=by rw[← hW];simp
 have c2:W.cell? ⟨w.heap.size,2,A4⟩=A2 (.slice sa ws.length sc):=by rw[← hW];simp
 have c3:W.cell? ⟨w.heap.size,3,A4⟩=A2 (.int .i64 ya):=by rw[← hW];simp
 have c4:W.cell? ⟨w.heap.size,4,A4⟩=A2 (.int .i64 yb):=by rw[← hW];simp
 have c5:W.cell? ⟨w.heap.size,5,A4⟩=A2 (.slice ka ks.length kc):=by rw[← hW];simp
 have HQ:=J (h.later hB);clear h
 have HZ:=J hz;clear hz
 have hGW:=hG.below hB
 obtain⟨n,hnn⟩:∃ n,Qr.nodes q=n:=⟨_,rfl⟩
 obtain⟨d,hdd⟩:∃ d,Qr.depth q=d:=⟨_,rfl⟩
 have HNN:=J hnn
 have HDD:=J hdd
 rw[hnn]at hn hdn
 rw[hdd]at hdn
 clear hnn hdd
 have hR:F9 q=if 64<n∨8<d then 4 else Eu q:=by unfold F9;rw[HNN.out,HDD.out]
 have HR:=J hR;clear hR
 by_cases g1:64<n
 ·go_enter Tryz.func118,Tryz.ntmps118
  go_wp2_with (go_at_call 198;refine (nodes_c B q _ W HQ.out (by rw[HNN.out];exact hn)).mono ?_;rintro e w1 ⟨rfl,hb1⟩;rw[HNN.out])
  go_ret
  exact⟨Av (by rw[HR.out,if_pos (.inl g1)]),hB.trans (hb1.mono hB.size)⟩
 ·by_cases g2:8<d
  ·go_enter Tryz.func118,Tryz.ntmps118
   go_wp2_with (first
    |(go_at_call 198;refine (nodes_c B q _ W HQ.out (by rw[HNN.out];exact hn)).mono ?_;rintro e w1 ⟨rfl,hb1⟩;rw[HNN.out];have e0:=A0 hb1 c0;have e1:=A0 hb1 c1;have e2:=A0 hb1 c2;have e3:=A0 hb1 c3;have e4:=A0 hb1 c4;have e5:=A0 hb1 c5)
    |(go_at_call 199;refine (Depth_c B q _ _ (HQ.out.later hb1) (by rw[HNN.out];exact hn)).mono ?_;rintro e w2 ⟨rfl,hb2⟩;rw[HDD.out]))
   go_ret
   exact⟨Av (by rw[HR.out,if_pos (.inr g2)]),hB.trans ((hb1.trans (hb2.mono hb1.size)).mono hB.size)⟩
  ·go_enter Tryz.func118,Tryz.ntmps118
   go_wp2_with (first
    |(go_at_call 198;refine (nodes_c B q _ W HQ.out (by rw[HNN.out];exact hn)).mono ?_;rintro e w1 ⟨rfl,hb1⟩;rw[HNN.out];have e0:=A0 hb1 c0;have e1:=A0 hb1 c1;have e2:=A0 hb1 c2;have e3:=A0 hb1 c3;have e4:=A0 hb1 c4;have e5:=A0 hb1 c5)
    |(go_at_call 199;refine (Depth_c B q _ _ (HQ.out.later hb1) (by rw[HNN.out];exact hn)).mono ?_;rintro e w2 ⟨rfl,hb2⟩;rw[HDD.out];have f0:=A0 hb2 e0;have f1:=A0 hb2 e1;have f2:=A0 hb2 e2;have f3:=A0 hb2 e3;have f4:=A0 hb2 e4;have f5:=A0 hb2 e5)
    |(go_at_call 200;refine (check_c B q _ _ ((HQ.out.later hb1).later hb2) HZ.out ((hGW.below hb1).below hb2)).mono ?_;rintro e w3 ⟨rfl,hb3⟩))
   go_ret
   exact⟨Av (by rw[HR.out,if_neg (by omega)]),hB.trans (((hb1.trans (hb2.mono hb1.size)).trans (hb3.mono (AK hb1.size hb2.size))).mono hB.size)⟩
end Go.Proofs.YtlakomilichhnaaGreatDoor
