/- Texts of this seat's, what the claim needs of them. -/
import Derived.Test.YtlakomilichhnaaGreatDoorZOx
import Derived.Test.YtlakomilichhnaaGreatDoorYXOr
import Derived.Test.YtlakomilichhnaaGreatDoorYXOc
import Derived.Test.YtlakomilichhnaaGreatDoorZOy
namespace Go.Proofs.YtlakomilichhnaaGreatDoor
set_option maxHeartbeats 3200000
set_option maxRecDepth 100000
open Go.RowKit
open Go renaming Calls→Ac,Value→Ah,World→A9,cell_later→A0,maxLen→Au
open Lib renaming hid→J
open List renaming getElem?_eq_getElem→A7,map_map→Dp,mem_append→AZ,mem_of_getElem?→Ag,mem_singleton→Bf,take_length→Ap,take_zero→Bt
open Nat renaming le_trans→AK,zero_le→Ae
open Option renaming none→A4,some→A2
open Proofs.Tryz renaming func214→DZ,func215→IN,func216→Zv,func294→Gq,func31→N1,func32→Jq,func76→N0,func78→MZ,ntmps214→DK,ntmps215→Ia,ntmps216→Ib,ntmps294→FW,ntmps31→M9,ntmps32→IP,ntmps76→M8,ntmps78→M7,prog→A3
open Qr renaming QC→BY,Qy→BK,isWord→DW,nodeE→Ip,nodes→D1,rightE→F9,take_snoc→DV,treeE→Eu,treeL→De,wordsB→Cn
open RowKit renaming Below→A6,intOf→Ad
open RowKit.Below renaming refl→Ab
open Tx renaming newb→Aa,ret1→Av,retb→Ay,words→Bh
theorem Qr.own_words {w:A9}{B:Nat}{v:Ah}{l:List UInt8} (h:w.ownsRow B 9 1 v (Bh l).length ((Bh l).map Tx.sv)) :
  ∃ a c,v=.slice a (Cn l).length c∧SLA w a c (Cn l) :=
 SLA.of_own h (by unfold Cn;rw[Dp];rfl)
theorem Qr.wordsB_len (l:List UInt8):(Cn l).length=(Bh l).length:=by unfold Cn;rw[List.length_map]
theorem Qr.wordsB_map (l:List UInt8):(Cn l).map (·.data.toList)=Bh l:=by
 unfold Cn
 rw[Dp]
 conv=>rhs;rw[← List.map_id (Bh l)]
 rfl
theorem r21_word_c (s:ByteArray) (w:A9) (hs:s.size≤1000000) :
  Ac A3 294 #[.string s] w fun e w'=>e=.returned (.bool (DW s))∧A6 w.heap.size w w':=by
 obtain⟨t,ht⟩:∃ t,Tx.valid s.data.toList=t:=⟨_,rfl⟩
 have HT:=J ht;clear ht
 cases t with
 | false =>
  go_enter Gq,FW
  go_wp2_with (go_at_call 122;refine (r01_Valid_c s _ (by omega)).mono ?_;rintro e w1 ⟨rfl,hb1⟩;rw[HT.out])
  go_ret
  exact⟨Ay (by unfold DW;rw[HT.out];rfl),hb1⟩
 | true =>
  have hm:=Qr.words_one (xs:=Cn s.data.toList) (s:=s) (Qr.wordsB_map _)
  obtain⟨xs,hxs⟩:∃ xs,Cn s.data.toList=xs:=⟨_,rfl⟩
  have hl:xs.length≤1000000000:=by
   rw[← hxs,Qr.wordsB_len]
   have:=Tx.words_len HT.out
   rw[← Lib.size_eq]at this
   omega
  rw[hxs]at hm
  have HX:=J hxs;clear hxs
  have hI:DW s=decide (xs=[s]):=by unfold DW;rw[HT.out,hm];rfl
  have HI:=J hI;clear hI hm
  rcases xs with _ | ⟨x,_ | ⟨y,r⟩⟩
  ·go_enter Gq,FW
   go_wp2_with (first
    |(go_at_call 122;refine (r01_Valid_c s _ (by omega)).mono ?_;rintro e w1 ⟨rfl,hb1⟩;rw[HT.out])
    |(go_at_call 212;refine (r01_Words_c s _ (by omega)).mono ?_;rintro e w2 ⟨v,rfl,hown,hb2⟩;obtain⟨a,c,rfl,hA⟩:=Qr.own_words hown;clear hown;rw[HX.out]))
   go_ret
   exact⟨Ay (by rw[HI.out];simp),hb1.trans (hb2.mono hb1.size)⟩
  ·obtain⟨t2,ht2⟩:∃ t,(x.toList == s.toList)=t:=⟨_,rfl⟩
   go_enter Gq,FW
   go_wp2_with (first
    |(go_at_call 122;refine (r01_Valid_c s _ (by omega)).mono ?_;rintro e w1 ⟨rfl,hb1⟩;rw[HT.out])
    |(go_at_call 212;refine (r01_Words_c s _ (by omega)).mono ?_;rintro e w2 ⟨v,rfl,hown,hb2⟩;obtain⟨a,c,rfl,hA⟩:=Qr.own_words hown;clear hown;rw[HX.out]at hA ⊢;obtain⟨b,o,rfl,hbl,hc⟩:=hA.get (k:=0) rfl;rw[Nat.add_zero]at hc;clear hA))
   go_ret
   exact⟨Ay (by rw[HI.out,← ht2,Bool.eq_iff_iff,beq_iff_eq,decide_eq_true_iff,List.cons.injEq];simp[Lib.toList_data,ByteArray.ext_iff,← Array.toList_inj]),hb1.trans (hb2.mono hb1.size)⟩
  ·go_enter Gq,FW
   have hlen:¬ (((x::y::r).length:Int)=1):=by simp only[List.length_cons];omega
   go_wp2_with (first
    |(go_at_call 122;refine (r01_Valid_c s _ (by omega)).mono ?_;rintro e w1 ⟨rfl,hb1⟩;rw[HT.out])
    |(go_at_call 212;refine (r01_Words_c s _ (by omega)).mono ?_;rintro e w2 ⟨v,rfl,hown,hb2⟩;obtain⟨a,c,rfl,hA⟩:=Qr.own_words hown;clear hown;rw[HX.out]))
   go_ret
   exact⟨Ay (by rw[HI.out];simp),hb1.trans (hb2.mono hb1.size)⟩
theorem r21_words_c (ws:List ByteArray) (sa:Option Addr) (sc:Nat) (w:A9) (hA:ws≠[]→SLA w sa sc ws) (hz:∀ x∈ws,x.size≤1000000) (hn:ws.length≤9223372036854775807) :
  Ac A3 271 #[.slice sa ws.length sc] w fun e w'=>e=.returned (.bool (ws.all DW))∧A6 w.heap.size w w':=by
 have HZ:=J hz;clear hz
 go_enter Tryz.func271,Tryz.ntmps271
 go_wp2
 go_loopw [3] (fun i wr=>∃ k:Nat,k≤ws.length∧i=.int .i64 k∧Hid ((ws.take k).all DW=true)∧A6 w.heap.size w wr) (fun i _=>ws.length - (Ad i).toNat)
 case atStart=>exact⟨0,Ae _,rfl,J (by rw[Bt];rfl),Ab _ _⟩
 case round =>
  obtain⟨k,hk,rfl,hall,hb⟩:=hrel
  by_cases hlt:k<ws.length
  ·obtain⟨x,hx⟩:∃ x,ws[k]?=A2 x:=⟨_,A7 hlt⟩
   have hne:ws≠[]:=by intro h0;rw[h0]at hlt;simp at hlt
   obtain⟨b,o,rfl,hbl,d0⟩:=((hA hne).below hb).get hx
   have hxz:=HZ.out x (Ag hx)
   have HX:=J hx;clear hx hne
   obtain⟨t,ht⟩:∃ t,DW x=t:=⟨_,rfl⟩
   have HT:=J ht;clear ht
   cases t with
   | true =>
    go_wp2_with (go_at_call 294;refine (r21_word_c x _ hxz).mono ?_;rintro e w1 ⟨rfl,hb1⟩;rw[HT.out])
    go_roundw
    case rel=>exact⟨k+1,hlt,by go_num,J (Qr.all_take HX.out hall.out HT.out),hb.trans (hb1.mono hb.size)⟩
    case measure=>simp[Ad];omega
   | false =>
    go_wp2_with (go_at_call 294;refine (r21_word_c x _ hxz).mono ?_;rintro e w1 ⟨rfl,hb1⟩;rw[HT.out])
    go_ret
    exact⟨Ay (Qr.all_bad HX.out HT.out).symm,hb.trans (hb1.mono hb.size)⟩
  ·have hkk:k=ws.length:=by omega
   subst hkk
   go_wp2
   go_ret
   exact⟨Ay (by have:=hall.out;rw[Ap]at this;exact this.symm),hb⟩
theorem r21_term_c (B:Nat) (op fl ya yb:Int) (ws:List ByteArray) (ks:List BK) (sa ka:Option Addr) (sc kc:Nat) (w:A9) (h:BY B w (.mk op fl ws ya yb ks) [.int .i64 op,.int .i64 fl,.slice sa ws.length sc,.int .i64 ya,.int .i64 yb,.slice ka ks.length kc])
  (hz:∀ x∈ws,x.size≤1000000) :
  Ac A3 214 #[.agg #[.int .i64 op,.int .i64 fl,.slice sa ws.length sc,.int .i64 ya,.int .i64 yb,.slice ka ks.length kc]] w fun e w'=>e=.returned (.int .i64 (Qr.termE op fl ws ya yb ks.length))∧A6 w.heap.size w w':=by
 obtain⟨_,hA,_,hK⟩:=h.sla
 have HZ:=J hz;clear hz
 have hkmax:=hK.max
 have hmx:Au=9223372036854775807:=rfl
 have hwmax:ws.length≤9223372036854775807:=by
  by_cases hne:ws=[]
  ·rw[hne];decide
  ·have:=(hA hne).cap;have:=(hA hne).max;omega
 clear h
 obtain⟨W,hW⟩:∃ W,w.alloc (.cells #[.int .i64 op,.int .i64 fl,.slice sa ws.length sc,.int .i64 ya,.int .i64 yb,.slice ka ks.length kc] 29)=W:=⟨_,rfl⟩
 have hB:A6 w.heap.size w W:=by rw[← hW];exact Aa _ _
 have c0:W.cell? ⟨w.heap.size,0,A4⟩=A2 (.int .i64 op):=by rw[← hW];simp
 have c1:W.cell? ⟨w.heap.size,1,A4⟩=A2 (.int .i64 fl):=by rw[← hW];simp
 have c2:W.cell? ⟨w.heap.size,2,A4⟩=A2 (.slice sa ws.length sc):=by rw[← hW];simp
 have c3:W.cell? ⟨w.heap.size,3,A4⟩=A2 (.int .i64 ya):=by rw[← hW];simp
 have c4:W.cell? ⟨w.heap.size,4,A4⟩=A2 (.int .i64 yb):=by rw[← hW];simp
 have c5:W.cell? ⟨w.heap.size,5,A4⟩=A2 (.slice ka ks.length kc):=by rw[← hW];simp
 have HA:Hid (ws≠[]→SLA W sa sc ws):=J fun hn=>(hA hn).below hB
 clear hA hK
 by_cases g:ws.length<1∨(op≠3∧1<ws.length)
 ·have HE:=J (Qr.termE_3 (o:=op) (f:=fl) (a:=ya) (b:=yb) (ws:=ws) (n:=ks.length) (by omega))
  rcases g with g | ⟨g,g2⟩
  all_goals
   go_enter DZ,DK
   go_wp2
   all_goals (go_ret;exact⟨Av HE.out.symm,hB⟩)
 ·have HW0:=J (fun hw=>Qr.termE_w (o:=op) (f:=fl) (a:=ya) (b:=yb) (ws:=ws) (n:=ks.length) hw)
  obtain⟨t,ht⟩:∃ t,ws.all DW=t:=⟨_,rfl⟩
  have HT:=J ht
  have g1:1≤ws.length:=by omega
  have g2:op=3∨(op≠3∧¬ 1<ws.length):=by omega
  cases t with
  | false =>
   have HE:=J (HW0.out ht);clear ht g
   rcases g2 with rfl | ⟨g2,g6⟩
   all_goals
    go_enter DZ,DK
    go_wp2_with (go_at_call 271;refine (r21_words_c ws sa sc _ HA.out HZ.out hwmax).mono ?_;rintro e w1 ⟨rfl,hb1⟩;rw[HT.out])
    go_ret
    exact⟨Av HE.out.symm,hB.trans (hb1.mono hB.size)⟩
  | true =>
   by_cases g3:ya≠0∨yb≠0∨0<ks.length
   ·have HE:=J (Qr.termE_3 (o:=op) (f:=fl) (a:=ya) (b:=yb) (ws:=ws) (n:=ks.length) (by omega))
    clear g ht
    rcases g2 with rfl | ⟨g2,g6⟩
    all_goals
     rcases (show ya≠0∨(ya=0∧yb≠0)∨(ya=0∧yb=0∧0<ks.length) by omega) with g4 | ⟨rfl,g4⟩ | ⟨rfl,rfl,g4⟩
    all_goals
     clear g3
     go_enter DZ,DK
     go_wp2_with (go_at_call 271;refine (r21_words_c ws sa sc _ HA.out HZ.out hwmax).mono ?_;rintro e w1 ⟨rfl,hb1⟩;rw[HT.out];have e1:=A0 hb1 c1;have e3:=A0 hb1 c3;have e4:=A0 hb1 c4;have e5:=A0 hb1 c5)
     go_ret
     exact⟨Av HE.out.symm,hB.trans (hb1.mono hB.size)⟩
   ·have HR:=J (Qr.termE_r (o:=op) (f:=fl) (a:=ya) (b:=yb) (ws:=ws) (n:=ks.length) (by omega) ht)
    obtain rfl:ya=0:=by omega
    obtain rfl:yb=0:=by omega
    have g5:¬ 0<ks.length:=by omega
    clear g ht g3
    by_cases l1:8<ws.length
    ·have HE:=HR.out;rw[if_pos l1]at HE;replace HE:=J HE
     rcases g2 with rfl | ⟨g2,g6⟩
     ·go_enter DZ,DK
      go_wp2_with (go_at_call 271;refine (r21_words_c ws sa sc _ HA.out HZ.out hwmax).mono ?_;rintro e w1 ⟨rfl,hb1⟩;rw[HT.out];have e1:=A0 hb1 c1;have e3:=A0 hb1 c3;have e4:=A0 hb1 c4;have e5:=A0 hb1 c5)
      go_ret
      exact⟨Av HE.out.symm,hB.trans (hb1.mono hB.size)⟩
     ·exfalso;omega
    ·have HE:=HR.out;rw[if_neg l1]at HE
     rcases (show fl<0∨(¬ fl<0∧4<fl)∨(¬ fl<0∧¬ 4<fl) by omega) with l2 | ⟨l2,l3⟩ | ⟨l2,l3⟩
     ·rw[if_pos (.inl l2)]at HE;replace HE:=J HE
      rcases g2 with rfl | ⟨g2,g6⟩
      all_goals
       go_enter DZ,DK
       go_wp2_with (go_at_call 271;refine (r21_words_c ws sa sc _ HA.out HZ.out hwmax).mono ?_;rintro e w1 ⟨rfl,hb1⟩;rw[HT.out];have e1:=A0 hb1 c1;have e3:=A0 hb1 c3;have e4:=A0 hb1 c4;have e5:=A0 hb1 c5)
       go_ret
       exact⟨Av HE.out.symm,hB.trans (hb1.mono hB.size)⟩
     ·rw[if_pos (.inr l3)]at HE;replace HE:=J HE
      rcases g2 with rfl | ⟨g2,g6⟩
      all_goals
       go_enter DZ,DK
       go_wp2_with (go_at_call 271;refine (r21_words_c ws sa sc _ HA.out HZ.out hwmax).mono ?_;rintro e w1 ⟨rfl,hb1⟩;rw[HT.out];have e1:=A0 hb1 c1;have e3:=A0 hb1 c3;have e4:=A0 hb1 c4;have e5:=A0 hb1 c5)
       go_ret
       exact⟨Av HE.out.symm,hB.trans (hb1.mono hB.size)⟩
     ·rw[if_neg (by omega)]at HE;replace HE:=J HE
      rcases g2 with rfl | ⟨g2,g6⟩
      all_goals
       go_enter DZ,DK
       go_wp2_with (go_at_call 271;refine (r21_words_c ws sa sc _ HA.out HZ.out hwmax).mono ?_;rintro e w1 ⟨rfl,hb1⟩;rw[HT.out];have e1:=A0 hb1 c1;have e3:=A0 hb1 c3;have e4:=A0 hb1 c4;have e5:=A0 hb1 c5)
       go_ret
       exact⟨Av HE.out.symm,hB.trans (hb1.mono hB.size)⟩
theorem r21_years_c (B:Nat) (op fl ya yb:Int) (ws:List ByteArray) (ks:List BK) (sa ka:Option Addr) (sc kc:Nat) (w:A9) (h:BY B w (.mk op fl ws ya yb ks) [.int .i64 op,.int .i64 fl,.slice sa ws.length sc,.int .i64 ya,.int .i64 yb,.slice ka ks.length kc]) :
  Ac A3 215 #[.agg #[.int .i64 op,.int .i64 fl,.slice sa ws.length sc,.int .i64 ya,.int .i64 yb,.slice ka ks.length kc]] w fun e w'=>e=.returned (.int .i64 (Qr.yearsE fl ws ya yb ks.length))∧A6 w.heap.size w w':=by
 obtain⟨_,hA,_,hK⟩:=h.sla
 have hkmax:=hK.max
 have hmx:Au=9223372036854775807:=rfl
 have hwmax:ws.length≤9223372036854775807:=by
  by_cases hne:ws=[]
  ·rw[hne];decide
  ·have:=(hA hne).cap;have:=(hA hne).max;omega
 clear h hA hK
 obtain⟨W,hW⟩:∃ W,w.alloc (.cells #[.int .i64 op,.int .i64 fl,.slice sa ws.length sc,.int .i64 ya,.int .i64 yb,.slice ka ks.length kc] 29)=W:=⟨_,rfl⟩
 have hB:A6 w.heap.size w W:=by rw[← hW];exact Aa _ _
 have c0:W.cell? ⟨w.heap.size,0,A4⟩=A2 (.int .i64 op):=by rw[← hW];simp
 have c1:W.cell? ⟨w.heap.size,1,A4⟩=A2 (.int .i64 fl):=by rw[← hW];simp
 have c2:W.cell? ⟨w.heap.size,2,A4⟩=A2 (.slice sa ws.length sc):=by rw[← hW];simp
 have c3:W.cell? ⟨w.heap.size,3,A4⟩=A2 (.int .i64 ya):=by rw[← hW];simp
 have c4:W.cell? ⟨w.heap.size,4,A4⟩=A2 (.int .i64 yb):=by rw[← hW];simp
 have c5:W.cell? ⟨w.heap.size,5,A4⟩=A2 (.slice ka ks.length kc):=by rw[← hW];simp
 by_cases g:fl≠0∨0<ws.length∨0<ks.length
 ·have HE:=J (Qr.yearsE_3 (a:=ya) (b:=yb) g)
  rcases (show fl≠0∨(fl=0∧0<ws.length)∨(fl=0∧¬ 0<ws.length∧0<ks.length) by omega) with g1 | ⟨rfl,g2⟩ | ⟨rfl,g2,g3⟩
  all_goals
   clear g
   go_enter IN,Ia
   go_wp2
   go_ret
   exact⟨Av HE.out.symm,hB⟩
 ·have g1:fl=0:=by omega
  have g2:¬ 0<ws.length:=by omega
  have g3:¬ 0<ks.length:=by omega
  by_cases g':ya<1∨yb<ya∨2199<yb
  ·have HE:=J (Qr.yearsE_2 g g')
   clear g
   subst g1
   rcases (show ya<1∨(¬ ya<1∧yb<ya)∨(¬ ya<1∧¬ yb<ya∧2199<yb) by omega) with g1 | ⟨g1,g4⟩ | ⟨g1,g4,g5⟩
   all_goals
    clear g'
    go_enter IN,Ia
    go_wp2
    go_ret
    exact⟨Av HE.out.symm,hB⟩
  ·have HE:=J (Qr.yearsE_0 g g')
   clear g
   subst g1
   have y1:¬ ya<1:=by omega
   have y2:¬ yb<ya:=by omega
   have y3:¬ 2199<yb:=by omega
   clear g'
   go_enter IN,Ia
   go_wp2
   go_ret
   exact⟨Av HE.out.symm,hB⟩
theorem r21_operator_c (B:Nat) (op fl ya yb:Int) (ws:List ByteArray) (ks:List BK) (sa ka:Option Addr) (sc kc:Nat) (w:A9) (h:BY B w (.mk op fl ws ya yb ks) [.int .i64 op,.int .i64 fl,.slice sa ws.length sc,.int .i64 ya,.int .i64 yb,.slice ka ks.length kc]) :
  Ac A3 216 #[.agg #[.int .i64 op,.int .i64 fl,.slice sa ws.length sc,.int .i64 ya,.int .i64 yb,.slice ka ks.length kc]] w fun e w'=>e=.returned (.int .i64 (Qr.kidsE op fl ws ya yb ks))∧A6 w.heap.size w w':=by
 obtain⟨_,hA,_,hK⟩:=h.sla
 have hkmax:=hK.max
 have hmx:Au=9223372036854775807:=rfl
 have hwmax:ws.length≤9223372036854775807:=by
  by_cases hne:ws=[]
  ·rw[hne];decide
  ·have:=(hA hne).cap;have:=(hA hne).max;omega
 clear h hA
 obtain⟨W,hW⟩:∃ W,w.alloc (.cells #[.int .i64 op,.int .i64 fl,.slice sa ws.length sc,.int .i64 ya,.int .i64 yb,.slice ka ks.length kc] 29)=W:=⟨_,rfl⟩
 have hB:A6 w.heap.size w W:=by rw[← hW];exact Aa _ _
 have c0:W.cell? ⟨w.heap.size,0,A4⟩=A2 (.int .i64 op):=by rw[← hW];simp
 have c1:W.cell? ⟨w.heap.size,1,A4⟩=A2 (.int .i64 fl):=by rw[← hW];simp
 have c2:W.cell? ⟨w.heap.size,2,A4⟩=A2 (.slice sa ws.length sc):=by rw[← hW];simp
 have c3:W.cell? ⟨w.heap.size,3,A4⟩=A2 (.int .i64 ya):=by rw[← hW];simp
 have c4:W.cell? ⟨w.heap.size,4,A4⟩=A2 (.int .i64 yb):=by rw[← hW];simp
 have c5:W.cell? ⟨w.heap.size,5,A4⟩=A2 (.slice ka ks.length kc):=by rw[← hW];simp
 by_cases g:fl≠0∨ya≠0∨yb≠0∨0<ws.length∨ks.length<2∨(op=7∧2<ks.length)
 ·have HE:=J (Qr.kidsE_3 g)
  clear hK
  rcases (show fl≠0∨(fl=0∧ya≠0)∨(fl=0∧ya=0∧yb≠0)∨(fl=0∧ya=0∧yb=0∧0<ws.length)∨(fl=0∧ya=0∧yb=0∧¬ 0<ws.length∧ks.length<2)∨(fl=0∧ya=0∧yb=0∧¬ 0<ws.length∧¬ ks.length<2∧op=7∧2<ks.length) by omega) with g1 | ⟨rfl,g2⟩ | ⟨rfl,rfl,g3⟩ | ⟨rfl,rfl,rfl,g4⟩ | ⟨rfl,rfl,rfl,g4,g5⟩ | ⟨rfl,rfl,rfl,g4,g5,rfl,g6⟩
  all_goals
   clear g
   go_enter Zv,Ib
   go_wp2
   go_ret
   exact⟨Av HE.out.symm,hB⟩
 ·have g1:fl=0:=by omega
  have g2:ya=0:=by omega
  have g3:yb=0:=by omega
  have g4:¬ 0<ws.length:=by omega
  have g5:¬ ks.length<2:=by omega
  by_cases g7:op=7
  ·have HE:=J (Qr.kidsE_7 g g7)
   have g8:¬ 2<ks.length:=by omega
   clear g
   subst g1;subst g2;subst g3;subst g7
   have hS:=hK.below hB
   clear hK
   go_enter Zv,Ib
   go_wp2
   clear hW c1 c2 c3 c4
   go_loopw [4] (fun i wr=>∃ k:Nat,k≤ks.length∧i=.int .i64 k∧Hid (True)∧A6 W.heap.size W wr) (fun i _=>ks.length - (Ad i).toNat)
   case atStart=>exact⟨0,Ae _,rfl,J (True.intro),Ab _ _⟩
   case round =>
    obtain⟨k,hk,rfl,hall,hb⟩:=hrel
    have e0:=A0 hb c0
    have e5:=A0 hb c5
    by_cases hlt:k<ks.length
    ·obtain⟨x,hx⟩:∃ x,ks[k]?=A2 x:=⟨_,A7 hlt⟩
     obtain⟨b,o,sa2,sc2,ka2,kc2,rfl,hbl,d0,d1,d2,d3,d4,d5,hq⟩:=(hS.below hb).get hx
     have HX:=J hx;clear hx hq
     go_wp2
     go_quiet (fail)
     go_wp2
     go_roundw
     case rel=>exact⟨k+1,hlt,by go_num,J True.intro,hb.trans (below_drewN.mono hb.size)⟩
     case measure=>simp[Ad];omega
    ·have hkk:k=ks.length:=by omega
     subst hkk
     have l1:¬ 8<ks.length:=by omega
     go_wp2
     go_ret
     exact⟨Av HE.out.symm,hB.trans (hb.mono hB.size)⟩
  ·have HE:=J (Qr.kidsE_r g g7)
   have g7b:(op != 7)=true:=by simpa using g7
   have g7c:(op == 7)=false:=by simpa using g7
   clear g
   subst g1;subst g2;subst g3
   have hS:=hK.below hB
   clear hK
   go_enter Zv,Ib
   go_wp2
   clear hW c1 c2 c3 c4
   go_loopw [4] (fun i wr=>∃ k:Nat,k≤ks.length∧i=.int .i64 k∧Hid ((ks.take k).any (fun k=>decide (k.op=op))=false)∧A6 W.heap.size W wr) (fun i _=>ks.length - (Ad i).toNat)
   case atStart=>exact⟨0,Ae _,rfl,J (by rw[Bt];rfl),Ab _ _⟩
   case round =>
    obtain⟨k,hk,rfl,hall,hb⟩:=hrel
    have e0:=A0 hb c0
    have e5:=A0 hb c5
    by_cases hlt:k<ks.length
    ·obtain⟨x,hx⟩:∃ x,ks[k]?=A2 x:=⟨_,A7 hlt⟩
     obtain⟨b,o,sa2,sc2,ka2,kc2,rfl,hbl,d0,d1,d2,d3,d4,d5,hq⟩:=(hS.below hb).get hx
     have HX:=J hx;clear hx hq
     by_cases hxo:x.op=op
     ·have HO:=J hxo
      rw[hxo]at d0
      clear hxo
      go_wp2
      go_quiet (fail)
      go_wp2
      go_ret
      exact⟨Av (by rw[HE.out,if_pos (Qr.any_hit HX.out (by simpa using HO.out))]),hB.trans ((hb.trans (below_drewN.mono hb.size)).mono hB.size)⟩
     ·have hxb:(x.op == op)=false:=by simpa using hxo
      have HXO:=J hxo;clear hxo
      go_wp2
      go_quiet (fail)
      go_wp2
      go_roundw
      case rel=>exact⟨k+1,hlt,by go_num,J (Qr.any_take HX.out hall.out (by simpa using HXO.out)),hb.trans (below_drewN.mono hb.size)⟩
      case measure=>simp[Ad];omega
    ·have hkk:k=ks.length:=by omega
     subst hkk
     have hal:=hall.out
     rw[Ap]at hal
     have HA:=J hal
     clear hall hal
     by_cases l1:8<ks.length
     ·go_wp2
      go_ret
      exact⟨Av (by rw[HE.out,HA.out,if_neg (by simp),if_pos l1]),hB.trans (hb.mono hB.size)⟩
     ·go_wp2
      go_ret
      exact⟨Av (by rw[HE.out,HA.out,if_neg (by simp),if_neg l1]),hB.trans (hb.mono hB.size)⟩
theorem r21_node_c (B:Nat) (op fl ya yb:Int) (ws:List ByteArray) (ks:List BK) (sa ka:Option Addr) (sc kc:Nat) (w:A9) (h:BY B w (.mk op fl ws ya yb ks) [.int .i64 op,.int .i64 fl,.slice sa ws.length sc,.int .i64 ya,.int .i64 yb,.slice ka ks.length kc])
  (hz:∀ x∈ws,x.size≤1000000) :
  Ac A3 146 #[.agg #[.int .i64 op,.int .i64 fl,.slice sa ws.length sc,.int .i64 ya,.int .i64 yb,.slice ka ks.length kc]] w fun e w'=>e=.returned (.int .i64 (Ip (.mk op fl ws ya yb ks)))∧A6 w.heap.size w w':=by
 have HZ:=J hz;clear hz
 obtain⟨W,hW⟩:∃ W,w.alloc (.cells #[.int .i64 op,.int .i64 fl,.slice sa ws.length sc,.int .i64 ya,.int .i64 yb,.slice ka ks.length kc] 29)=W:=⟨_,rfl⟩
 have hB:A6 w.heap.size w W:=by rw[← hW];exact Aa _ _
 have c0:W.cell? ⟨w.heap.size,0,A4⟩=A2 (.int .i64 op):=by rw[← hW];simp
 have c1:W.cell? ⟨w.heap.size,1,A4⟩=A2 (.int .i64 fl):=by rw[← hW];simp
 have c2:W.cell? ⟨w.heap.size,2,A4⟩=A2 (.slice sa ws.length sc):=by rw[← hW];simp
 have c3:W.cell? ⟨w.heap.size,3,A4⟩=A2 (.int .i64 ya):=by rw[← hW];simp
 have c4:W.cell? ⟨w.heap.size,4,A4⟩=A2 (.int .i64 yb):=by rw[← hW];simp
 have c5:W.cell? ⟨w.heap.size,5,A4⟩=A2 (.slice ka ks.length kc):=by rw[← hW];simp
 have HQ:=J (h.later hB);clear h
 obtain⟨n0,hn0⟩:∃ n0,Ip (.mk op fl ws ya yb ks)=n0:=⟨_,rfl⟩
 rw[hn0]
 have H0:=J hn0;clear hn0
 rcases (show op=1∨op=2∨op=3∨op=4∨op=5∨op=6∨op=7∨(op≠1∧op≠2∧op≠3∧op≠4∧op≠5∧op≠6∧op≠7) by omega) with rfl | rfl | rfl | rfl | rfl | rfl | rfl | ⟨h1,h2,h3,h4,h5,h6,h7⟩
 all_goals
  try (have b1:=beq_eq_false_iff_ne.2 h1;have b2:=beq_eq_false_iff_ne.2 h2;have b3:=beq_eq_false_iff_ne.2 h3;have b4:=beq_eq_false_iff_ne.2 h4;have b5:=beq_eq_false_iff_ne.2 h5;have b6:=beq_eq_false_iff_ne.2 h6;have b7:=beq_eq_false_iff_ne.2 h7)
  go_enter Tryz.func146,Tryz.ntmps146
  go_wp2_with (first
   |(go_at_call 214;refine (r21_term_c B _ fl ya yb ws ks sa ka sc kc W HQ.out HZ.out).mono ?_;rintro e w1 ⟨rfl,hb1⟩;rw[← Qr.nodeE_t (ks:=ks) (by decide),H0.out])
   |(go_at_call 215;refine (r21_years_c B _ fl ya yb ws ks sa ka sc kc W HQ.out).mono ?_;rintro e w1 ⟨rfl,hb1⟩;rw[← Qr.nodeE_y (ks:=ks),H0.out])
   |(go_at_call 216;refine (r21_operator_c B _ fl ya yb ws ks sa ka sc kc W HQ.out).mono ?_;rintro e w1 ⟨rfl,hb1⟩;rw[← Qr.nodeE_k (ks:=ks) (by decide),H0.out]))
  go_ret
  first
   | exact⟨rfl,hB.trans (hb1.mono hB.size)⟩
   | exact⟨Av (by rw[← H0.out,Qr.nodeE_f (by omega)]),hB⟩
theorem r21_tree_c (B:Nat):∀ (q:BK) (cs:List Ah) (w:A9),BY B w q cs→Qr.Wz 1000000 q →
  Ac A3 78 #[.agg cs.toArray] w fun e w'=>e=.returned (.int .i64 (Eu q))∧A6 w.heap.size w w':=by
 refine Qr.Qy.ind ?_
 intro op fl ws ya yb ks ih cs w h hn
 obtain⟨sa,sc,ka,kc,rfl,_,_,hK⟩:=h.kids
 dsimp only[Qr.Qy.op,Qr.Qy.fld,Qr.Qy.a,Qr.Qy.b,Qr.Qy.ks,Qr.Qy.ws]at hK h ⊢
 have IH:=J ih;clear ih
 obtain⟨W,hW⟩:∃ W,w.alloc (.cells #[.int .i64 op,.int .i64 fl,.slice sa ws.length sc,.int .i64 ya,.int .i64 yb,.slice ka ks.length kc] 29)=W:=⟨_,rfl⟩
 have hB:A6 w.heap.size w W:=by rw[← hW];exact Aa _ _
 have c0:W.cell? ⟨w.heap.size,0,A4⟩=A2 (.int .i64 op):=by rw[← hW];simp
 have c1:W.cell? ⟨w.heap.size,1,A4⟩=A2 (.int .i64 fl):=by rw[← hW];simp
 have c2:W.cell? ⟨w.heap.size,2,A4⟩=A2 (.slice sa ws.length sc):=by rw[← hW];simp
 have c3:W.cell? ⟨w.heap.size,3,A4⟩=A2 (.int .i64 ya):=by rw[← hW];simp
 have c4:W.cell? ⟨w.heap.size,4,A4⟩=A2 (.int .i64 yb):=by rw[← hW];simp
 have c5:W.cell? ⟨w.heap.size,5,A4⟩=A2 (.slice ka ks.length kc):=by rw[← hW];simp
 have hS:=hK.below hB
 have hmax:=hK.max
 have hmx:Au=9223372036854775807:=rfl
 have HQ:=J (h.later hB);clear h hK
 have HN:=J hn;clear hn
 have HT:Hid (Eu (.mk op fl ws ya yb ks)=De (Ip (.mk op fl ws ya yb ks)) ks):=J (by rw[Eu])
 obtain⟨n0,hn0⟩:∃ n0,Ip (.mk op fl ws ya yb ks)=n0:=⟨_,rfl⟩
 have H0:=J hn0;clear hn0
 by_cases hz0:n0=0
 ·subst hz0
  have HE:∀ (k:Nat),De 0 (ks.take k)=0→Eu (.mk op fl ws ya yb ks)=De 0 (ks.drop k):=by
   intro k he
   rw[HT.out,H0.out]
   conv=>lhs;rw[← List.take_append_drop k ks,Qr.treeL_app,he]
  have HEE:=J HE;clear HE HT
  go_enter MZ,M7
  go_wp2_with (go_at_call 146;refine (r21_node_c B op fl ya yb ws ks sa ka sc kc W HQ.out HN.out.ws).mono ?_;rintro e w1 ⟨rfl,hb1⟩;rw[H0.out];have e5:=A0 hb1 c5)
  clear hW c0 c1 c2 c3 c4 c5
  go_loopw [4] (fun i wr=>∃ k:Nat,k≤ks.length∧i=.int .i64 k∧Hid (De 0 (ks.take k)=0)∧A6 w1.heap.size w1 wr) (fun i _=>ks.length - (Ad i).toNat)
  case atStart=>exact⟨0,Ae _,rfl,J (by rw[Bt,De]),Ab _ _⟩
  case round =>
   obtain⟨k,hk,rfl,hall,hb⟩:=hrel
   have f5:=A0 hb e5
   by_cases hlt:k<ks.length
   ·obtain⟨x,hx⟩:∃ x,ks[k]?=A2 x:=⟨_,A7 hlt⟩
    obtain⟨b,o,sa2,sc2,ka2,kc2,rfl,hbl,d0,d1,d2,d3,d4,d5,hq⟩:=((hS.below hb1).below hb).get hx
    have hmem:=Ag hx
    have htk:=DV hx
    have hdr:=List.drop_eq_getElem_cons hlt
    have hxe:ks[k]=x:=by have:=A7 hlt;rw[hx]at this;exact (Option.some.inj this).symm
    rw[hxe]at hdr
    have HD:=J hdr;clear hdr hxe
    have HM:=J hmem;clear hmem
    have HX:=J hq;clear hq
    have HTK:=J htk;clear htk hx
    obtain⟨r,hr⟩:∃ r,Eu x=r:=⟨_,rfl⟩
    have HR:=J hr;clear hr
    have hend:Eu (.mk op fl ws ya yb ks)=De r (ks.drop (k+1)):=by
     rw[HEE.out k hall.out,HD.out,De,if_pos rfl,HR.out]
    have HF:=J hend;clear hend
    by_cases hr0:r=0
    ·subst hr0
     have hnx:De 0 (ks.take (k+1))=0:=by rw[HTK.out,Qr.treeL_app,hall.out];simp[De,HR.out]
     have HNX:=J hnx;clear hnx
     go_wp2_with (go_at_call 78;refine (IH.out x HM.out _ _ HX.out (HN.out.ks x HM.out)).mono ?_;rintro e w2 ⟨rfl,hb2⟩;rw[HR.out])
     go_roundw
     case rel=>exact⟨k+1,hlt,by go_num,HNX,hb.trans (hb2.mono hb.size)⟩
     case measure=>simp[Ad];omega
    ·have hbad:=HF.out
     rw[Qr.treeL_bad hr0]at hbad
     have HB:=J hbad;clear hbad
     have hne:(r != 0)=true:=by simpa using hr0
     clear hr0
     go_wp2_with (go_at_call 78;refine (IH.out x HM.out _ _ HX.out (HN.out.ks x HM.out)).mono ?_;rintro e w2 ⟨rfl,hb2⟩;rw[HR.out])
     go_ret
     exact⟨Av HB.out.symm,hB.trans ((hb1.trans ((hb.trans (hb2.mono hb.size)).mono hb1.size)).mono hB.size)⟩
   ·have hkk:k=ks.length:=by omega
    subst hkk
    have hend:=HEE.out _ hall.out
    rw[List.drop_length,De]at hend
    have HB:=J hend;clear hend
    go_wp2
    go_ret
    exact⟨Av HB.out.symm,hB.trans ((hb1.trans (hb.mono hb1.size)).mono hB.size)⟩
 ·have hbad:=HT.out
  rw[H0.out,Qr.treeL_bad hz0]at hbad
  have HB:=J hbad;clear hbad HT
  have hne:(n0 != 0)=true:=by simpa using hz0
  clear hz0
  go_enter MZ,M7
  go_wp2_with (go_at_call 146;refine (r21_node_c B op fl ya yb ws ks sa ka sc kc W HQ.out HN.out.ws).mono ?_;rintro e w1 ⟨rfl,hb1⟩;rw[H0.out])
  go_ret
  exact⟨Av HB.out.symm,hB.trans (hb1.mono hB.size)⟩
namespace Qr
theorem QC.eta {B:Nat}{w:A9}{q:Qy}{cs:List Ah} (h:QC B w q cs):∃ op fl ya yb ws ks sa sc ka kc,q=.mk op fl ws ya yb ks∧cs=[.int .i64 op,.int .i64 fl,.slice sa ws.length sc,.int .i64 ya,.int .i64 yb,.slice ka ks.length kc]:=by
 cases h with
 | mk _ _ _ _ _ _=>exact⟨_,_,_,_,_,_,_,_,_,_,rfl,rfl⟩
end Qr
theorem r21_Right_c (B:Nat) (q:BK) (cs:List Ah) (w:A9) (h:BY B w q cs) (hz:Qr.Wz 1000000 q) (hn:D1 q≤1000000000) :
  Ac A3 32 #[.agg cs.toArray] w fun e w'=>e=.returned (.int .i64 (F9 q))∧A6 w.heap.size w w':=by
 obtain⟨op,fl,ya,yb,ws,ks,sa,sc,ka,kc,hq,rfl⟩:=h.eta
 have hdn:=Qr.depth_nodes q
 clear hq
 obtain⟨W,hW⟩:∃ W,w.alloc (.cells #[.int .i64 op,.int .i64 fl,.slice sa ws.length sc,.int .i64 ya,.int .i64 yb,.slice ka ks.length kc] 29)=W:=⟨_,rfl⟩
 have hB:A6 w.heap.size w W:=by rw[← hW];exact Aa _ _
 have c0:W.cell? ⟨w.heap.size,0,A4⟩=A2 (.int .i64 op):=by rw[← hW];simp
 have c1:W.cell? ⟨w.heap.size,1,A4⟩=A2 (.int .i64 fl):=by rw[← hW];simp
 have c2:W.cell? ⟨w.heap.size,2,A4⟩=A2 (.slice sa ws.length sc):=by rw[← hW];simp
 have c3:W.cell? ⟨w.heap.size,3,A4⟩=A2 (.int .i64 ya):=by rw[← hW];simp
 have c4:W.cell? ⟨w.heap.size,4,A4⟩=A2 (.int .i64 yb):=by rw[← hW];simp
 have c5:W.cell? ⟨w.heap.size,5,A4⟩=A2 (.slice ka ks.length kc):=by rw[← hW];simp
 have HQ:=J (h.later hB);clear h
 have HZ:=J hz;clear hz
 obtain⟨n,hnn⟩:∃ n,D1 q=n:=⟨_,rfl⟩
 obtain⟨d,hdd⟩:∃ d,Qr.depth q=d:=⟨_,rfl⟩
 have HNN:=J hnn
 have HDD:=J hdd
 rw[hnn]at hn hdn
 rw[hdd]at hdn
 clear hnn hdd
 have hR:F9 q=if 64<n∨8<d then 4 else Eu q:=by unfold F9;rw[HNN.out,HDD.out]
 have HR:=J hR;clear hR
 by_cases g1:64<n
 ·have g1m:min n (64+1)=65:=by omega
  have GM:=J g1m;clear g1m
  go_enter Jq,IP
  go_wp2_with (go_at_call 75;refine (r21_Nodes_c B q _ 64 W HQ.out (by omega)).mono ?_;rintro e w1 ⟨rfl,hb1⟩;rw[HNN.out,GM.out])
  go_ret
  exact⟨Av (by rw[HR.out,if_pos (.inl g1)]),hB.trans (hb1.mono hB.size)⟩
 ·have g1m:min n (64+1)=n:=by omega
  have GM:=J g1m;clear g1m
  by_cases g2:8<d
  ·go_enter Jq,IP
   go_wp2_with (first
    |(go_at_call 75;refine (r21_Nodes_c B q _ 64 W HQ.out (by omega)).mono ?_;rintro e w1 ⟨rfl,hb1⟩;rw[HNN.out,GM.out];have e0:=A0 hb1 c0;have e1:=A0 hb1 c1;have e2:=A0 hb1 c2;have e3:=A0 hb1 c3;have e4:=A0 hb1 c4;have e5:=A0 hb1 c5)
    |(go_at_call 77;refine (r21_Depth_c B q _ _ (HQ.out.later hb1) (by rw[HNN.out];exact hn)).mono ?_;rintro e w2 ⟨rfl,hb2⟩;rw[HDD.out]))
   go_ret
   exact⟨Av (by rw[HR.out,if_pos (.inr g2)]),hB.trans ((hb1.trans (hb2.mono hb1.size)).mono hB.size)⟩
  ·go_enter Jq,IP
   go_wp2_with (first
    |(go_at_call 75;refine (r21_Nodes_c B q _ 64 W HQ.out (by omega)).mono ?_;rintro e w1 ⟨rfl,hb1⟩;rw[HNN.out,GM.out];have e0:=A0 hb1 c0;have e1:=A0 hb1 c1;have e2:=A0 hb1 c2;have e3:=A0 hb1 c3;have e4:=A0 hb1 c4;have e5:=A0 hb1 c5)
    |(go_at_call 77;refine (r21_Depth_c B q _ _ (HQ.out.later hb1) (by rw[HNN.out];exact hn)).mono ?_;rintro e w2 ⟨rfl,hb2⟩;rw[HDD.out];have f0:=A0 hb2 e0;have f1:=A0 hb2 e1;have f2:=A0 hb2 e2;have f3:=A0 hb2 e3;have f4:=A0 hb2 e4;have f5:=A0 hb2 e5)
    |(go_at_call 78;refine (r21_tree_c B q _ _ ((HQ.out.later hb1).later hb2) HZ.out).mono ?_;rintro e w3 ⟨rfl,hb3⟩))
   go_ret
   exact⟨Av (by rw[HR.out,if_neg (by omega)]),hB.trans (((hb1.trans (hb2.mono hb1.size)).trans (hb3.mono (AK hb1.size hb2.size))).mono hB.size)⟩
namespace Qr
inductive St:Qy→Prop
 | mk {op f a b:Int}{ws:List ByteArray}{ks:List Qy} (h0:ws.length≤20) (h1:∀ x∈ws,x.size≤200) (h2:∀ k∈ks,St k):St (.mk op f ws a b ks)
theorem St.iff {op f a b:Int}{ws:List ByteArray}{ks:List Qy}:St (.mk op f ws a b ks)↔ws.length≤20∧(∀ x∈ws,x.size≤200)∧∀ k∈ks,St k :=
 ⟨fun h=>by cases h with | mk a b c=>exact⟨a,b,c⟩,fun h=>.mk h.1 h.2.1 h.2.2⟩
theorem St.wz {q:Qy} (h:St q):Wz 1000000 q:=by
 induction h with
 | mk h0 h1 _ ih=>exact .mk (fun x hx=>AK (h1 x hx) (by decide)) ih
open Classical in
noncomputable def stB (q:Qy):Bool:=decide (St q)
open Classical in
theorem stB_t {q:Qy}:stB q=true↔St q:=by unfold stB;exact decide_eq_true_iff
theorem stB_f {q:Qy}:stB q=false↔¬ St q:=by rw[← stB_t];simp
end Qr
theorem r21_short_c (B:Nat):∀ (q:BK) (cs:List Ah) (w:A9),BY B w q cs →
  Ac A3 76 #[.agg cs.toArray] w fun e w'=>e=.returned (.bool (Qr.stB q))∧A6 w.heap.size w w':=by
 refine Qr.Qy.ind ?_
 intro op fl ws ya yb ks ih cs w h
 obtain⟨sa,sc,ka,kc,rfl,_,_,hK⟩:=h.kids
 dsimp only[Qr.Qy.op,Qr.Qy.fld,Qr.Qy.a,Qr.Qy.b,Qr.Qy.ks,Qr.Qy.ws]at hK h ⊢
 have IH:=J ih;clear ih
 obtain⟨_,hA,_,_⟩:=h.sla
 have hmx:Au=9223372036854775807:=rfl
 have hwmax:ws.length≤9223372036854775807:=by
  by_cases hne:ws=[]
  ·rw[hne];decide
  ·have:=(hA hne).cap;have:=(hA hne).max;omega
 obtain⟨W,hW⟩:∃ W,w.alloc (.cells #[.int .i64 op,.int .i64 fl,.slice sa ws.length sc,.int .i64 ya,.int .i64 yb,.slice ka ks.length kc] 29)=W:=⟨_,rfl⟩
 have hB:A6 w.heap.size w W:=by rw[← hW];exact Aa _ _
 have c0:W.cell? ⟨w.heap.size,0,A4⟩=A2 (.int .i64 op):=by rw[← hW];simp
 have c1:W.cell? ⟨w.heap.size,1,A4⟩=A2 (.int .i64 fl):=by rw[← hW];simp
 have c2:W.cell? ⟨w.heap.size,2,A4⟩=A2 (.slice sa ws.length sc):=by rw[← hW];simp
 have c3:W.cell? ⟨w.heap.size,3,A4⟩=A2 (.int .i64 ya):=by rw[← hW];simp
 have c4:W.cell? ⟨w.heap.size,4,A4⟩=A2 (.int .i64 yb):=by rw[← hW];simp
 have c5:W.cell? ⟨w.heap.size,5,A4⟩=A2 (.slice ka ks.length kc):=by rw[← hW];simp
 have hS:=hK.below hB
 have hmax:=hK.max
 have HA:Hid (ws≠[]→SLA W sa sc ws):=J fun hn=>(hA hn).below hB
 clear h hK hA
 have hI:Qr.St (.mk op fl ws ya yb ks)↔ws.length≤20∧(∀ x∈ws,x.size≤200)∧∀ k∈ks,Qr.St k:=Qr.St.iff
 have HI:=J hI;clear hI
 by_cases h20:20<ws.length
 ·go_enter N0,M8
  go_wp2
  go_ret
  exact⟨Ay (Qr.stB_f.2 fun h=>by have:=(HI.out.1 h).1;omega).symm,hB⟩
 ·go_enter N0,M8
  go_wp2
  go_loopw [3] (fun i wr=>∃ k:Nat,k≤ws.length∧i=.int .i64 k∧Hid (∀ x∈ws.take k,x.size≤200)∧A6 W.heap.size W wr) (fun i _=>ws.length - (Ad i).toNat)
  case atStart=>exact⟨0,Ae _,rfl,J (by simp),Ab _ _⟩
  case round =>
   obtain⟨k,hk,rfl,hall,hb⟩:=hrel
   have e2:=A0 hb c2
   have e5:=A0 hb c5
   by_cases hlt:k<ws.length
   ·obtain⟨x,hx⟩:∃ x,ws[k]?=A2 x:=⟨_,A7 hlt⟩
    have hne:ws≠[]:=by intro h0;rw[h0]at hlt;simp at hlt
    obtain⟨b,o,rfl,hbl,d0⟩:=((HA.out hne).below hb).get hx
    have htk:=DV hx
    have hmem:=Ag hx
    have HM:=J hmem;clear hmem
    have HTK:=J htk;clear htk hx hne
    by_cases h200:200<x.size
    ·go_wp2
     go_ret
     exact⟨Ay (Qr.stB_f.2 fun h=>by have:=(HI.out.1 h).2.1 x HM.out;omega).symm,hB.trans (hb.mono hB.size)⟩
    ·go_wp2
     go_roundw
     case rel=>exact⟨k+1,hlt,by go_num,J (by rw[HTK.out];intro y hy;rcases AZ.1 hy with hy | hy;exact hall.out y hy;rw[Bf]at hy;rw[hy];omega),hb⟩
     case measure=>simp[Ad];omega
   ·have hkk:k=ws.length:=by omega
    subst hkk
    have hal:=hall.out
    rw[Ap]at hal
    have HW:=J hal;clear hal hall
    have hS2:=hS.below hb
    have hb1:=hb
    obtain⟨w2,h2⟩:∃ w2,w2=wr:=⟨_,rfl⟩
    subst h2
    clear hb
    go_wp2
    go_loopw [4] (fun i wr=>∃ k:Nat,k≤ks.length∧i=.int .i64 k∧Hid (∀ x∈ks.take k,Qr.St x)∧A6 w2.heap.size w2 wr) (fun i _=>ks.length - (Ad i).toNat)
    case atStart=>exact⟨0,Ae _,rfl,J (by simp),Ab _ _⟩
    case round =>
     obtain⟨k,hk,rfl,hall,hb⟩:=hrel
     have f5:=A0 hb e5
     by_cases hlt:k<ks.length
     ·obtain⟨x,hx⟩:∃ x,ks[k]?=A2 x:=⟨_,A7 hlt⟩
      obtain⟨b,o,sa2,sc2,ka2,kc2,rfl,hbl,d0,d1,d2,d3,d4,d5,hq⟩:=(hS2.below hb).get hx
      have hmem:=Ag hx
      have htk:=DV hx
      have HM:=J hmem;clear hmem
      have HX:=J hq;clear hq
      have HTK:=J htk;clear htk hx
      obtain⟨t,ht⟩:∃ t,Qr.stB x=t:=⟨_,rfl⟩
      have HT:=J ht;clear ht
      cases t with
      | true =>
       go_wp2_with (go_at_call 76;refine (IH.out x HM.out _ _ HX.out).mono ?_;rintro e w3 ⟨rfl,hb3⟩;rw[HT.out])
       go_roundw
       case rel=>exact⟨k+1,hlt,by go_num,J (by rw[HTK.out];intro y hy;rcases AZ.1 hy with hy | hy;exact hall.out y hy;rw[Bf]at hy;rw[hy];exact Qr.stB_t.1 HT.out),hb.trans (hb3.mono hb.size)⟩
       case measure=>simp[Ad];omega
      | false =>
       go_wp2_with (go_at_call 76;refine (IH.out x HM.out _ _ HX.out).mono ?_;rintro e w3 ⟨rfl,hb3⟩;rw[HT.out])
       go_ret
       exact⟨Ay (Qr.stB_f.2 fun h=>Qr.stB_f.1 HT.out ((HI.out.1 h).2.2 x HM.out)).symm,hB.trans ((hb1.trans ((hb.trans (hb3.mono hb.size)).mono hb1.size)).mono hB.size)⟩
     ·have hkk:k=ks.length:=by omega
      subst hkk
      have hal:=hall.out
      rw[Ap]at hal
      have HA2:=J hal;clear hal hall
      go_wp2
      go_ret
      exact⟨Ay (Qr.stB_t.2 (HI.out.2 ⟨by omega,HW.out,HA2.out⟩)).symm,hB.trans ((hb1.trans (hb.mono hb1.size)).mono hB.size)⟩
namespace Qr
def Sm (q:Qy):Prop:=nodes q≤200∧St q
open Classical in
noncomputable def smB (q:Qy):Bool:=decide (Sm q)
open Classical in
theorem smB_t {q:Qy}:smB q=true↔Sm q:=by unfold smB;exact decide_eq_true_iff
end Qr
theorem r21_Small_c (B:Nat) (q:BK) (cs:List Ah) (w:A9) (h:BY B w q cs) :
  Ac A3 31 #[.agg cs.toArray] w fun e w'=>e=.returned (.bool (Qr.smB q))∧A6 w.heap.size w w':=by
 obtain⟨op,fl,ya,yb,ws,ks,sa,sc,ka,kc,hq,rfl⟩:=h.eta
 clear hq
 obtain⟨W,hW⟩:∃ W,w.alloc (.cells #[.int .i64 op,.int .i64 fl,.slice sa ws.length sc,.int .i64 ya,.int .i64 yb,.slice ka ks.length kc] 29)=W:=⟨_,rfl⟩
 have hB:A6 w.heap.size w W:=by rw[← hW];exact Aa _ _
 have c0:W.cell? ⟨w.heap.size,0,A4⟩=A2 (.int .i64 op):=by rw[← hW];simp
 have c1:W.cell? ⟨w.heap.size,1,A4⟩=A2 (.int .i64 fl):=by rw[← hW];simp
 have c2:W.cell? ⟨w.heap.size,2,A4⟩=A2 (.slice sa ws.length sc):=by rw[← hW];simp
 have c3:W.cell? ⟨w.heap.size,3,A4⟩=A2 (.int .i64 ya):=by rw[← hW];simp
 have c4:W.cell? ⟨w.heap.size,4,A4⟩=A2 (.int .i64 yb):=by rw[← hW];simp
 have c5:W.cell? ⟨w.heap.size,5,A4⟩=A2 (.slice ka ks.length kc):=by rw[← hW];simp
 have HQ:=J (h.later hB);clear h
 obtain⟨n,hnn⟩:∃ n,D1 q=n:=⟨_,rfl⟩
 obtain⟨t,ht⟩:∃ t,Qr.stB q=t:=⟨_,rfl⟩
 have hm:Qr.smB q=(decide (n≤200)&&t):=by
  rw[Bool.eq_iff_iff,Qr.smB_t,Bool.and_eq_true,decide_eq_true_iff,← ht,Qr.stB_t,← hnn]
  rfl
 have HNN:=J hnn
 have HTT:=J ht
 have HM:=J hm
 clear hnn ht hm
 by_cases g1:n≤200
 ·have g1m:min n (200+1)=n:=by omega
  have GM:=J g1m;clear g1m
  go_enter N1,M9
  go_wp2_with (first
   |(go_at_call 75;refine (r21_Nodes_c B q _ 200 W HQ.out (by omega)).mono ?_;rintro e w1 ⟨rfl,hb1⟩;rw[HNN.out,GM.out];have e0:=A0 hb1 c0;have e1:=A0 hb1 c1;have e2:=A0 hb1 c2;have e3:=A0 hb1 c3;have e4:=A0 hb1 c4;have e5:=A0 hb1 c5)
   |(go_at_call 76;refine (r21_short_c B q _ _ (HQ.out.later hb1)).mono ?_;rintro e w2 ⟨rfl,hb2⟩;rw[HTT.out]))
  go_ret
  exact⟨Ay (by rw[HM.out,decide_eq_true g1];rfl),hB.trans ((hb1.trans (hb2.mono hb1.size)).mono hB.size)⟩
 ·have g1m:min n (200+1)=201:=by omega
  have GM:=J g1m;clear g1m
  go_enter N1,M9
  go_wp2_with (go_at_call 75;refine (r21_Nodes_c B q _ 200 W HQ.out (by omega)).mono ?_;rintro e w1 ⟨rfl,hb1⟩;rw[HNN.out,GM.out])
  go_ret
  exact⟨Ay (by rw[HM.out,decide_eq_false g1];rfl),hB.trans (hb1.mono hB.size)⟩
end Go.Proofs.YtlakomilichhnaaGreatDoor
