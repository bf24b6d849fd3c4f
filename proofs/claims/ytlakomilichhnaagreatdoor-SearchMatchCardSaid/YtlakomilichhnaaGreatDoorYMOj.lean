/- Texts of this seat's, what the claim needs of them. -/
import Derived.Test.YtlakomilichhnaaGreatDoorYMOf
import Derived.Test.YtlakomilichhnaaGreatDoorZOj
namespace Go.Proofs.YtlakomilichhnaaGreatDoor
set_option maxHeartbeats 3200000
set_option maxRecDepth 100000
open Go.RowKit
open Bool renaming eq_false_or_eq_true→CV
open Go renaming Calls→Ac,World→A9,cell_later→A0
open Ix renaming Mod→EI,OwnT→AX,authB→Eb,numB→Ha,numL→Gz,own_lower→Cr,own_sla→C9,pick→Cz,term→F7,terms→Cw,termsTo→K0,wordsF→EZ
open Lib renaming hid→J,toList_data→AA
open List renaming append_assoc→B0,append_nil→AD,getElem?_eq_getElem→A7,length_append→Af,length_filter_le→Bo,length_map→At,length_take→Az,map_append→AS,mem_filter→B8,mem_map→B3,mem_of_getElem?→Ag,mem_of_mem_take→Cb,take_length→Ap,take_zero→Bt
open Nat renaming le_trans→AK,zero_le→Ae
open Option renaming none→A4,some→A2
open Proofs.Tryz renaming func70→GV,ntmps70→Gl,prog→A3,underlying26→Bb
open Rc renaming Fl→BS,FldA→AV,allV→BX,tagIs→AQ
open RowKit renaming Below→A6,intOf→Ad
open RowKit.Below renaming refl→Ab
open Tx renaming newb→Aa,step→A8
open Value renaming oneCell'→AT,string→AW
open World renaming ownsRow_nil→AH,size_alloc→Bn
namespace Rc
end Rc
theorem r20_Terms_2 (fs:List BS) (a:Option Addr) (c:Nat) (id ver kind:Int) (lang:ByteArray)  (w:A9) (h:AV w a c fs) (hM:EI fs)  :
  Ac A3 70 #[.agg #[.int .i64 id,.int .i64 ver,.int .i64 kind,.string lang,.slice a fs.length c],.int .i64 2] w fun e w'=>∃ v,e=.returned v∧AX w' w.heap.size v (F7 fs 2)∧A6 w.heap.size w w':=by
 obtain⟨W,hW⟩:∃ W,w.alloc (.cells #[.int .i64 id,.int .i64 ver,.int .i64 kind,.string lang,.slice a fs.length c] 51)=W:=⟨_,rfl⟩
 have hB:A6 w.heap.size w W:=by rw[← hW];exact Aa _ _
 have c4:W.cell? ⟨w.heap.size,4,A4⟩=A2 (.slice a fs.length c):=by rw[← hW];simp
 have HS:=J (h.below hB);clear h
 have hlen:=hM.len
 have hcap:=HS.out.cap
 have hbB:=hB.size
 go_enter GV,Gl
 go_wp2
 clear hW
 go_loopw [5,6] (fun v i wr=>∃ (k:Nat),k≤fs.length∧i=.int .i64 k∧AX wr w.heap.size v (Cz Eb [97] (fs.take k))∧A6 w.heap.size w wr∧A6 W.heap.size W wr) (fun _ i _=>fs.length - (Ad i).toNat)
 case atStart=>exact⟨0,Ae _,rfl,AH _ _ _ _,hB,Ab _ _⟩
 case round =>
  obtain⟨k,hk,rfl,hown,hb,hbW⟩:=hrel
  have hbs:=hb.size
  have hbWs:=hbW.size
  replace c4:=A0 hbW c4
  by_cases hlt:k<fs.length
  ·obtain⟨f,hf⟩:∃ f,fs[k]?=A2 f:=⟨_,A7 hlt⟩
   have hfm:=Ag hf
   obtain⟨B,o,sa,sc,rfl,hbl,d0,d1,d2,d3,hsub⟩:=HS.out.get hf
   replace d0:=A0 hbW d0
   replace d1:=A0 hbW d1
   replace d2:=A0 hbW d2
   replace d3:=A0 hbW d3
   have HSUB:=J (hsub.below hbW);clear hsub
   have hpt:=Ix.pick_take (p:=Eb) (codes:=[97]) hf
   have hpl:=Ix.pick_le (p:=Eb) (codes:=[97]) (fs:=fs.take k) (fun g hg=>hM.words g (Cb hg) _)
   rw[Az]at hpl
   have hwf:=hM.words f hfm [97]
   have hsl:=hM.subs f hfm
   have HSZ:=J (hM.size f hfm)
   obtain⟨acc,hacc⟩:∃ acc,Cz Eb [97] (fs.take k)=acc:=⟨_,rfl⟩
   rw[hacc]at hown hpt hpl
   have hpl2:acc.length≤1000000:=by omega
   clear hpl hacc
   rcases CV (f.tag.toList == [49,48,48]) with t0 | t0
   ·have b0:AQ [49,48,48] f=true:=by unfold AQ;rw[← AA];exact t0
    have hti:Eb f=true:=by unfold Eb;rw[b0];simp
    rw[if_pos hti]at hpt
    clear b0
    obtain⟨WF,hWF⟩:∃ ws,EZ f [97]=ws:=⟨_,rfl⟩
    rw[hWF]at hpt hwf
    have HPT:=J hpt;have HWF:=J hWF
    clear hpt hWF hti hf
    have CW:Hid (∀ w',A6 wr.heap.size wr w'→Ac A3 140 #[.agg #[.string f.tag,.string f.ind,.slice sa f.subs.length sc,.int .i64 f.auth],.string ⟨#[97]⟩] w' fun e w''=>∃ v,e=.returned v∧AX w'' w'.heap.size v WF∧A6 w'.heap.size w' w''):=J (fun w' hb'=>by
     have h9:=r20_words_c f sa sc ⟨#[97]⟩ w' (HSUB.out.below hb') hsl (by decide) HSZ.out (by rw[show (⟨#[97]⟩:ByteArray).data.toList=[97] from rfl,HWF.out];omega)
     rw[show (⟨#[97]⟩:ByteArray).data.toList=[97] from rfl,HWF.out]at h9
     exact h9)
    obtain⟨oa,oc,rfl,hso⟩:=C9 hown
    have HSO:=J hso;clear hso
    go_wp2_with (first
     |(go_at_call 138;((with_reducible refine (r20_joined_c acc WF oa va oc vc _ (HSO.out.below hb2) HSV.out (by omega)).mono ?_);rintro e w3 ⟨v3,rfl,hown3,hb3⟩;have s3:=hb3.size))
     |(go_at_call 140;((with_reducible refine (CW.out _ (Ab _ _)).mono ?_);rintro e w2 ⟨v2,rfl,hown2,hb2⟩;obtain⟨va,vc,rfl,hsv⟩:=C9 hown2;have HSV:=J hsv;clear hsv hown2;have s2:=hb2.size)))
    go_roundw
    case rel=>exact⟨k+1,hlt,by go_num,by rw[HPT.out];exact Cr hown3 (by omega),A8 (A8 hb hb2) hb3,A8 (A8 hbW hb2) hb3⟩
    case measure=>simp[Ad];omega
   ·have b0:AQ [49,48,48] f=false:=by unfold AQ;rw[← AA];exact t0
    rcases CV (f.tag.toList == [49,49,48]) with t1 | t1
    ·have b1:AQ [49,49,48] f=true:=by unfold AQ;rw[← AA];exact t1
     have hti:Eb f=true:=by unfold Eb;rw[b1];simp
     rw[if_pos hti]at hpt
     clear b0 b1
     obtain⟨WF,hWF⟩:∃ ws,EZ f [97]=ws:=⟨_,rfl⟩
     rw[hWF]at hpt hwf
     have HPT:=J hpt;have HWF:=J hWF
     clear hpt hWF hti hf
     have CW:Hid (∀ w',A6 wr.heap.size wr w'→Ac A3 140 #[.agg #[.string f.tag,.string f.ind,.slice sa f.subs.length sc,.int .i64 f.auth],.string ⟨#[97]⟩] w' fun e w''=>∃ v,e=.returned v∧AX w'' w'.heap.size v WF∧A6 w'.heap.size w' w''):=J (fun w' hb'=>by
      have h9:=r20_words_c f sa sc ⟨#[97]⟩ w' (HSUB.out.below hb') hsl (by decide) HSZ.out (by rw[show (⟨#[97]⟩:ByteArray).data.toList=[97] from rfl,HWF.out];omega)
      rw[show (⟨#[97]⟩:ByteArray).data.toList=[97] from rfl,HWF.out]at h9
      exact h9)
     obtain⟨oa,oc,rfl,hso⟩:=C9 hown
     have HSO:=J hso;clear hso
     go_wp2_with (first
      |(go_at_call 138;((with_reducible refine (r20_joined_c acc WF oa va oc vc _ (HSO.out.below hb2) HSV.out (by omega)).mono ?_);rintro e w3 ⟨v3,rfl,hown3,hb3⟩;have s3:=hb3.size))
      |(go_at_call 140;((with_reducible refine (CW.out _ (Ab _ _)).mono ?_);rintro e w2 ⟨v2,rfl,hown2,hb2⟩;obtain⟨va,vc,rfl,hsv⟩:=C9 hown2;have HSV:=J hsv;clear hsv hown2;have s2:=hb2.size)))
     go_roundw
     case rel=>exact⟨k+1,hlt,by go_num,by rw[HPT.out];exact Cr hown3 (by omega),A8 (A8 hb hb2) hb3,A8 (A8 hbW hb2) hb3⟩
     case measure=>simp[Ad];omega
    ·have b1:AQ [49,49,48] f=false:=by unfold AQ;rw[← AA];exact t1
     rcases CV (f.tag.toList == [55,48,48]) with t2 | t2
     ·have b2:AQ [55,48,48] f=true:=by unfold AQ;rw[← AA];exact t2
      have hti:Eb f=true:=by unfold Eb;rw[b2];simp
      rw[if_pos hti]at hpt
      clear b0 b1 b2
      obtain⟨WF,hWF⟩:∃ ws,EZ f [97]=ws:=⟨_,rfl⟩
      rw[hWF]at hpt hwf
      have HPT:=J hpt;have HWF:=J hWF
      clear hpt hWF hti hf
      have CW:Hid (∀ w',A6 wr.heap.size wr w'→Ac A3 140 #[.agg #[.string f.tag,.string f.ind,.slice sa f.subs.length sc,.int .i64 f.auth],.string ⟨#[97]⟩] w' fun e w''=>∃ v,e=.returned v∧AX w'' w'.heap.size v WF∧A6 w'.heap.size w' w''):=J (fun w' hb'=>by
       have h9:=r20_words_c f sa sc ⟨#[97]⟩ w' (HSUB.out.below hb') hsl (by decide) HSZ.out (by rw[show (⟨#[97]⟩:ByteArray).data.toList=[97] from rfl,HWF.out];omega)
       rw[show (⟨#[97]⟩:ByteArray).data.toList=[97] from rfl,HWF.out]at h9
       exact h9)
      obtain⟨oa,oc,rfl,hso⟩:=C9 hown
      have HSO:=J hso;clear hso
      go_wp2_with (first
       |(go_at_call 138;((with_reducible refine (r20_joined_c acc WF oa va oc vc _ (HSO.out.below hb2) HSV.out (by omega)).mono ?_);rintro e w3 ⟨v3,rfl,hown3,hb3⟩;have s3:=hb3.size))
       |(go_at_call 140;((with_reducible refine (CW.out _ (Ab _ _)).mono ?_);rintro e w2 ⟨v2,rfl,hown2,hb2⟩;obtain⟨va,vc,rfl,hsv⟩:=C9 hown2;have HSV:=J hsv;clear hsv hown2;have s2:=hb2.size)))
      go_roundw
      case rel=>exact⟨k+1,hlt,by go_num,by rw[HPT.out];exact Cr hown3 (by omega),A8 (A8 hb hb2) hb3,A8 (A8 hbW hb2) hb3⟩
      case measure=>simp[Ad];omega
     ·have b2:AQ [55,48,48] f=false:=by unfold AQ;rw[← AA];exact t2
      rcases CV (f.tag.toList == [55,49,48]) with t3 | t3
      ·have b3:AQ [55,49,48] f=true:=by unfold AQ;rw[← AA];exact t3
       have hti:Eb f=true:=by unfold Eb;rw[b3];simp
       rw[if_pos hti]at hpt
       clear b0 b1 b2 b3
       obtain⟨WF,hWF⟩:∃ ws,EZ f [97]=ws:=⟨_,rfl⟩
       rw[hWF]at hpt hwf
       have HPT:=J hpt;have HWF:=J hWF
       clear hpt hWF hti hf
       have CW:Hid (∀ w',A6 wr.heap.size wr w'→Ac A3 140 #[.agg #[.string f.tag,.string f.ind,.slice sa f.subs.length sc,.int .i64 f.auth],.string ⟨#[97]⟩] w' fun e w''=>∃ v,e=.returned v∧AX w'' w'.heap.size v WF∧A6 w'.heap.size w' w''):=J (fun w' hb'=>by
        have h9:=r20_words_c f sa sc ⟨#[97]⟩ w' (HSUB.out.below hb') hsl (by decide) HSZ.out (by rw[show (⟨#[97]⟩:ByteArray).data.toList=[97] from rfl,HWF.out];omega)
        rw[show (⟨#[97]⟩:ByteArray).data.toList=[97] from rfl,HWF.out]at h9
        exact h9)
       obtain⟨oa,oc,rfl,hso⟩:=C9 hown
       have HSO:=J hso;clear hso
       go_wp2_with (first
        |(go_at_call 138;((with_reducible refine (r20_joined_c acc WF oa va oc vc _ (HSO.out.below hb2) HSV.out (by omega)).mono ?_);rintro e w3 ⟨v3,rfl,hown3,hb3⟩;have s3:=hb3.size))
        |(go_at_call 140;((with_reducible refine (CW.out _ (Ab _ _)).mono ?_);rintro e w2 ⟨v2,rfl,hown2,hb2⟩;obtain⟨va,vc,rfl,hsv⟩:=C9 hown2;have HSV:=J hsv;clear hsv hown2;have s2:=hb2.size)))
       go_roundw
       case rel=>exact⟨k+1,hlt,by go_num,by rw[HPT.out];exact Cr hown3 (by omega),A8 (A8 hb hb2) hb3,A8 (A8 hbW hb2) hb3⟩
       case measure=>simp[Ad];omega
      ·have b3:AQ [55,49,48] f=false:=by unfold AQ;rw[← AA];exact t3
       have hti:¬ Eb f=true:=by unfold Eb;rw[b0,b1,b2,b3];simp
       clear b0 b1 b2 b3
       rw[if_neg hti,AD]at hpt
       have HPT:=J hpt
       clear hpt hti hf
       go_wp2
       go_roundw
       case rel=>exact⟨k+1,hlt,by go_num,by rw[HPT.out];exact hown,hb,hbW⟩
       case measure=>simp[Ad];omega
  ·obtain rfl:k=fs.length:=by omega
   rw[Ap]at hown
   go_wp2
   go_ret
   exact⟨_,rfl,hown,hb⟩
theorem r07_All_own_c (f:BS) (a:Option Addr) (c:Nat) (codes:ByteArray) (w:A9) (h:Rc.SubA w a c f.subs) (hl:f.subs.length≤1000) (hs:codes.size≤1000) :
  Ac A3 142 #[.agg #[.string f.tag,.string f.ind,.slice a f.subs.length c,.int .i64 f.auth],.string codes] w fun e w'=>∃ v,e=.returned v∧w'.ownsRow w.heap.size 9 1 v (BX f.subs codes.data.toList).length ((BX f.subs codes.data.toList).map AW)∧A6 w.heap.size w w':=by
 obtain⟨i0,hi0,hz0,hz1,hz2⟩:=info_parts info_str
 obtain⟨W,hW⟩:∃ W,w.alloc (.cells #[.string f.tag,.string f.ind,.slice a f.subs.length c,.int .i64 f.auth] 84)=W:=⟨_,rfl⟩
 have hB:A6 w.heap.size w W:=by rw[← hW];exact Aa _ _
 have c2:W.cell? ⟨w.heap.size,2,A4⟩=A2 (.slice a f.subs.length c):=by rw[← hW];simp
 have hS:=h.below hB
 have hcap:=h.cap
 go_enter Tryz.func142,Tryz.ntmps142
 go_wp2
 clear hW
 go_loopw [5,6] (fun v i wr=>∃ (k:Nat) (L:List ByteArray),k≤f.subs.length∧i=.int .i64 k∧Hid (L=BX (f.subs.take k) codes.data.toList)∧L.length≤k∧wr.ownsRow W.heap.size 9 1 v L.length (L.map AW)∧A6 W.heap.size W wr) (fun _ i _=>f.subs.length - (Ad i).toNat)
 case atStart=>exact⟨0,[],Ae _,rfl,J rfl,Nat.le_refl _,AH _ _ _ _,Ab _ _⟩
 case round =>
  obtain⟨k,L,hk,rfl,hL,hLk,hown,hb⟩:=hrel
  have hbs:=hb.size
  have hbw:=A8 hB hb
  replace c2:=A0 hb c2
  by_cases hlt:k<f.subs.length
  ·obtain⟨x,hx⟩:∃ x,f.subs[k]?=A2 x:=⟨_,A7 hlt⟩
   obtain⟨b,o,rfl,hbl,c0,c1⟩:=hS.get hx
   replace c0:=A0 hb c0
   replace c1:=A0 hb c1
   have hT:=Rc.allV_take codes.data.toList hx
   cases hH:Rc.hasCode codes.data.toList x.1 with
   | true =>
    rw[if_pos hH,← hL.out]at hT
    have HT:=J hT;clear hT
    have HH:=J hH;clear hH hx
    go_wp2_with (first
     |(go_at_call 213;refine (r07_in_c x.1 codes _ (by omega)).mono ?_;rintro e w1 ⟨rfl,rfl⟩;rw[HH.out])
     |(at_builtin;go_must (refine wpList_append_own _ rfl _ _ 26 rfl W.heap.size 9 i0 (.string ⟨#[]⟩) 1 16 Bb hi0 hz0 hz1 hz2 rfl (by decide) _ L.length _ rfl (hown.alloc _) ⟨_,0,A4⟩ 1 1 [.string x.2] rfl rfl (Tx.cell_one_at _ _ (by first | rfl | simp) _ _) (by simp[AT]) (by unfold maxLen;omega) (by omega) (by simp;omega) ?_);intro v' w2 hown2 hg2 hnil2))
    have hb2:A6 W.heap.size W w2:=(hb.alloc hbs _).grown hg2 (by simp;omega) (fun j hj=>(hown.lt j hj).1)
    go_roundw
    case rel=>exact⟨k+1,L++[x.2],by omega,by go_num,J HT.out.symm,by simp;omega,by simpa using hown2,hb2⟩
    case measure=>simp[Ad];omega
   | false =>
    rw[if_neg (by simp[hH]),AD,← hL.out]at hT
    have HT:=J hT;clear hT
    have HH:=J hH;clear hH hx
    go_wp2_with (go_at_call 213;refine (r07_in_c x.1 codes _ (by omega)).mono ?_;rintro e w1 ⟨rfl,rfl⟩;rw[HH.out])
    go_roundw
    case rel=>exact⟨k+1,L,by omega,by go_num,J HT.out.symm,by omega,hown,hb⟩
    case measure=>simp[Ad];omega
  ·obtain rfl:k=f.subs.length:=by omega
   have hL2:=hL.out
   rw[Rc.take_all]at hL2
   subst hL2
   go_wp2
   go_ret
   exact⟨_,rfl,⟨hown.1,by
    rcases hown.2 with h1 | ⟨g,cap,cur,h1,h2,h3,h4⟩
    ·exact .inl h1
    ·exact .inr ⟨g,cap,cur,h1,by have:=hB.size;omega,h3,h4⟩⟩,hbw⟩
namespace Ix
open Rc
theorem numL_nil:numL []=[]:=rfl
theorem numL_take {L:List ByteArray}{k:Nat}{x:ByteArray} (h:L[k]?=A2 x):numL (L.take (k+1))=numL (L.take k)++(if plainB x.data.toList=[] then [] else [plainB x.data.toList]):=by
 have hlt:=(List.getElem?_eq_some_iff.1 h).1
 unfold numL
 rw[List.take_succ_eq_append_getElem hlt,AS,List.filter_append]
 rw[A7 hlt]at h
 injection h with h
 rw[h]
 congr 1
 by_cases hp:plainB x.data.toList=[] <;> simp[hp]
end Ix
theorem r20_Terms_4 (fs:List BS) (a:Option Addr) (c:Nat) (id ver kind:Int) (lang:ByteArray)  (w:A9) (h:AV w a c fs) (hM:EI fs)  :
    Ac A3 70 #[.agg #[.int .i64 id,.int .i64 ver,.int .i64 kind,.string lang,.slice a fs.length c],.int .i64 4] w fun e w'=>∃ v,e=.returned v∧AX w' w.heap.size v (F7 fs 4)∧A6 w.heap.size w w':=by
  obtain⟨W,hW⟩:∃ W,w.alloc (.cells #[.int .i64 id,.int .i64 ver,.int .i64 kind,.string lang,.slice a fs.length c] 51)=W:=⟨_,rfl⟩
  have hB:A6 w.heap.size w W:=by rw[← hW];exact Aa _ _
  have c4:W.cell? ⟨w.heap.size,4,A4⟩=A2 (.slice a fs.length c):=by rw[← hW];simp
  have HS:=J (h.below hB);clear h
  have hlen:=hM.len
  have hcap:=HS.out.cap
  have hbB:=hB.size
  obtain⟨i0,hi0,hz0,hz1,hz2⟩:=info_parts info_str
  have HI:=J hi0;clear hi0
  go_enter GV,Gl
  go_wp2
  clear hW
  go_loopw [5,8] (fun v i wr=>∃ (k:Nat),k≤fs.length∧i=.int .i64 k∧AX wr W.heap.size v (Ix.nums (fs.take k))∧A6 w.heap.size w wr∧A6 W.heap.size W wr) (fun _ i _=>fs.length - (Ad i).toNat)
  case atStart=>exact⟨0,Ae _,rfl,AH _ _ _ _,hB,Ab _ _⟩
  case round =>
    obtain⟨k,hk,rfl,hown,hb,hbW⟩:=hrel
    have hbs:=hb.size
    have hbWs:=hbW.size
    replace c4:=A0 hbW c4
    by_cases hlt:k<fs.length
    · obtain⟨f,hf⟩:∃ f,fs[k]?=A2 f:=⟨_,A7 hlt⟩
      have hfm:=Ag hf
      obtain⟨B,o,sa,sc,rfl,hbl,d0,d1,d2,d3,hsub⟩:=HS.out.get hf
      replace d0:=A0 hbW d0
      replace d1:=A0 hbW d1
      replace d2:=A0 hbW d2
      replace d3:=A0 hbW d3
      have HSUB:=J (hsub.below hbW);clear hsub
      have hpt:=Ix.nums_take hf
      have hpl:=Ix.nums_le (fs:=fs.take k) (fun g hg=>hM.subs g (Cb hg))
      rw[Az]at hpl
      have hsl:=hM.subs f hfm
      have HSZ:=J (hM.size f hfm)
      obtain⟨acc,hacc⟩:∃ acc,Ix.nums (fs.take k)=acc:=⟨_,rfl⟩
      rw[hacc]at hown hpt hpl
      have hpl2:acc.length≤1000000:=by omega
      clear hpl hacc
      rcases CV (f.tag.toList == [48,50,48]) with t0 | t0
      · have b0:AQ [48,50,48] f=true:=by unfold AQ;rw[← AA];exact t0
        have hti:Ha f=true:=by unfold Ha;rw[b0];simp
        rw[if_pos hti]at hpt
        clear b0
        obtain⟨L,hL⟩:∃ L,BX f.subs [97]=L:=⟨_,rfl⟩
        have hLl:L.length≤1000:=by rw[← hL];unfold BX;rw[At];exact AK (Bo _ _) hsl
        have hLz:∀ x∈L,x.size≤100000:=fun x hx=>by
          rw[← hL]at hx
          unfold BX at hx
          obtain⟨y,hy,rfl⟩:=B3.1 hx
          exact HSZ.out y (B8.1 hy).1
        have hNF:Ix.numF f=Gz L:=by unfold Ix.numF Gz;rw[hL]
        rw[hNF]at hpt
        have HPT:=J hpt;have HL:=J hL;have HLZ:=J hLz
        clear hpt hL hLz hNF hti hf
        have CW:Hid (∀ w',A6 wr.heap.size wr w'→Ac A3 142 #[.agg #[.string f.tag,.string f.ind,.slice sa f.subs.length sc,.int .i64 f.auth],.string ⟨#[97]⟩] w' fun e w''=>∃ v,e=.returned v∧w''.ownsRow w'.heap.size 9 1 v L.length (L.map AW)∧A6 w'.heap.size w' w''):=J (fun w' hb'=>by
          have h9:=r07_All_own_c f sa sc ⟨#[97]⟩ w' (HSUB.out.below hb') hsl (by decide)
          rw[show (⟨#[97]⟩:ByteArray).data.toList=[97] from rfl,HL.out]at h9
          exact h9)
        go_wp2_with (go_at_call 142;((with_reducible refine (CW.out _ (Ab _ _)).mono ?_);rintro e w2 ⟨v2,rfl,hown2,hb2⟩;obtain⟨va,vc,rfl,hsv⟩:=SLA.of_own hown2 rfl;have HSV:=J hsv;have hlo2:∀ ad,va=A2 ad→wr.heap.size≤ad.block∧ad.block<w2.heap.size:=(fun ad h=>by subst h;exact hown2.lt _ rfl);clear hsv hown2;have s2:=hb2.size;have own3:=own_below hown hb2;have k2:=A8 hb hb2;have kW:=A8 hbW hb2))
        have hcap2:=HSV.out.cap
        have hw9:=IntWalk.i64_in ((k:Int)+1) ⟨by omega,by omega⟩
        go_loopw [5,11] (fun v i wr=>∃ (m:Nat),m≤L.length∧i=.int .i64 m∧AX wr W.heap.size v (acc++Gz (L.take m))∧A6 w.heap.size w wr∧A6 W.heap.size W wr∧Hid (SLA wr va vc L)∧(∀ ad,va=A2 ad→v.ownBlock≠A2 ad.block∧ad.block<wr.heap.size)) (fun _ i _=>L.length - (Ad i).toNat)
        case atStart=>exact⟨0,Ae _,rfl,by rw[Bt,Ix.numL_nil,AD];exact own3,k2,kW,HSV,fun ad h=>⟨fun e=>by have:=(hown.lt _ e).2;have:=(hlo2 ad h).1;omega,(hlo2 ad h).2⟩⟩
        case round =>
          obtain⟨m,hm,rfl,hown4,hb4,hbW4,hs4,hne4⟩:=hrel
          have hbs4:=hb4.size
          have hbWs4:=hbW4.size
          by_cases hlt2:m<L.length
          · obtain⟨x,hx⟩:∃ x,L[m]?=A2 x:=⟨_,A7 hlt2⟩
            obtain⟨B2,o2,rfl,hbl2,e2⟩:=hs4.out.get hx
            have hxs:=HLZ.out x (Ag hx)
            have hnt:=Ix.numL_take hx
            have hnl:=Ix.numL_le (L.take m)
            rw[Az]at hnl
            obtain⟨PL,hPL⟩:∃ P,Ix.plainB x.data.toList=P:=⟨_,rfl⟩
            rw[hPL]at hnt
            have HPL:=J hPL
            clear hPL hx
            by_cases hP:PL=[]
            · subst hP
              rw[if_pos rfl,AD]at hnt
              have HNT:=J hnt;clear hnt
              go_wp2_with (go_at_call 143;((with_reducible refine (r20_plain_c x _ (by omega)).mono ?_);rintro e w5 ⟨rfl,hb5⟩;rw[HPL.out];have s5:=hb5.size))
              go_roundw
              case rel=>exact⟨m+1,hlt2,by go_num,by rw[HNT.out];exact own_below hown4 hb5,A8 hb4 hb5,A8 hbW4 hb5,J (hs4.out.below hb5),fun ad h=>⟨(hne4 ad h).1,by have:=(hne4 ad h).2;omega⟩⟩
              case measure=>simp[Ad];omega
            · rw[if_neg hP]at hnt
              have HNT:=J hnt;clear hnt
              obtain⟨P,hPP⟩:∃ P:ByteArray,(⟨PL.toArray⟩:ByteArray)=P:=⟨_,rfl⟩
              have hPe:(P.toList == [])=false:=by rw[AA,← hPP];simpa using hP
              have HPP:=J hPP;clear hPP
              have HK:Hid ((acc++Gz (L.take m)).length≤1500000):=J (by rw[Af];omega)
              go_wp2_with (first
                |(at_builtin;go_must (refine wpList_append_sl rfl _ _ 26 rfl W.heap.size 9 i0 _ 1 16 Bb HI.out hz0 hz1 hz2 rfl (by decide) _ (acc++Gz (L.take m)).length _ rfl (HO6.out.alloc _) (A2 ⟨_,0,A4⟩) 1 1 [AW P] rfl rfl (fun h9=>by cases h9) (fun ad had=>by cases had;exact Br.cells_new_at _ _ (by first | rfl | simp) _ _) (by simp[AT]) (by unfold maxLen;have:=HK.out;omega) (by have:=HK.out;omega) (by simp;omega) ?_);intro v' w7 hown7 hg7 hnil7)
                |(go_at_call 143;((with_reducible refine (r20_plain_c x w5 (by omega)).mono ?_);rintro e w6 ⟨rfl,hb6⟩;rw[HPL.out,HPP.out];have s6:=hb6.size;have HO6:=J (own_below (own_below hown4 hb5) hb6)))
                |(go_at_call 143;((with_reducible refine (r20_plain_c x _ (by omega)).mono ?_);rintro e w5 ⟨rfl,hb5⟩;rw[HPL.out,HPP.out];have s5:=hb5.size;have e5:=A0 hb5 e2)))
              have hW6:=A8 (A8 hbW4 hb5) hb6
              have hg6:A6 W.heap.size W w7:=(hW6.alloc hW6.size _).grown hg7 (by simp;omega) (fun i hi=>(hown4.lt i hi).1)
              have s7:=hg7.size
              rw[Bn]at s7
              go_roundw
              case rel=>exact⟨m+1,hlt2,by go_num,by unfold AX;rw[HNT.out,← B0,Af,AS];rw[← HPP.out]at hown7;exact hown7,A8 hB hg6,hg6,J ((((hs4.out.below hb5).below hb6).below (Aa _ _)).grown hg7 (fun g hg e=>(hne4 g hg).1 e.symm)),fun ad h=>⟨fun e=>by
                    rcases hnil7 with h9 | h9
                    · rw[h9]at e;exact (hne4 ad h).1 e
                    · rw[h9]at e;injection e with e;have:=(hne4 ad h).2;simp at e;omega,by have:=(hne4 ad h).2;omega⟩⟩
              case measure=>simp[Ad];omega
          · obtain rfl:m=L.length:=by omega
            rw[Ap]at hown4
            go_wp2
            go_roundw
            case rel=>exact⟨k+1,hlt,by go_num,by rw[HPT.out];exact hown4,hb4,hbW4⟩
            case measure=>simp[Ad];omega
      · have b0:AQ [48,50,48] f=false:=by unfold AQ;rw[← AA];exact t0
        rcases CV (f.tag.toList == [48,50,50]) with t1 | t1
        · have b1:AQ [48,50,50] f=true:=by unfold AQ;rw[← AA];exact t1
          have hti:Ha f=true:=by unfold Ha;rw[b1];simp
          rw[if_pos hti]at hpt
          clear b0 b1
          obtain⟨L,hL⟩:∃ L,BX f.subs [97]=L:=⟨_,rfl⟩
          have hLl:L.length≤1000:=by rw[← hL];unfold BX;rw[At];exact AK (Bo _ _) hsl
          have hLz:∀ x∈L,x.size≤100000:=fun x hx=>by
            rw[← hL]at hx
            unfold BX at hx
            obtain⟨y,hy,rfl⟩:=B3.1 hx
            exact HSZ.out y (B8.1 hy).1
          have hNF:Ix.numF f=Gz L:=by unfold Ix.numF Gz;rw[hL]
          rw[hNF]at hpt
          have HPT:=J hpt;have HL:=J hL;have HLZ:=J hLz
          clear hpt hL hLz hNF hti hf
          have CW:Hid (∀ w',A6 wr.heap.size wr w'→Ac A3 142 #[.agg #[.string f.tag,.string f.ind,.slice sa f.subs.length sc,.int .i64 f.auth],.string ⟨#[97]⟩] w' fun e w''=>∃ v,e=.returned v∧w''.ownsRow w'.heap.size 9 1 v L.length (L.map AW)∧A6 w'.heap.size w' w''):=J (fun w' hb'=>by
            have h9:=r07_All_own_c f sa sc ⟨#[97]⟩ w' (HSUB.out.below hb') hsl (by decide)
            rw[show (⟨#[97]⟩:ByteArray).data.toList=[97] from rfl,HL.out]at h9
            exact h9)
          go_wp2_with (go_at_call 142;((with_reducible refine (CW.out _ (Ab _ _)).mono ?_);rintro e w2 ⟨v2,rfl,hown2,hb2⟩;obtain⟨va,vc,rfl,hsv⟩:=SLA.of_own hown2 rfl;have HSV:=J hsv;have hlo2:∀ ad,va=A2 ad→wr.heap.size≤ad.block∧ad.block<w2.heap.size:=(fun ad h=>by subst h;exact hown2.lt _ rfl);clear hsv hown2;have s2:=hb2.size;have own3:=own_below hown hb2;have k2:=A8 hb hb2;have kW:=A8 hbW hb2))
          have hcap2:=HSV.out.cap
          have hw9:=IntWalk.i64_in ((k:Int)+1) ⟨by omega,by omega⟩
          go_loopw [5,11] (fun v i wr=>∃ (m:Nat),m≤L.length∧i=.int .i64 m∧AX wr W.heap.size v (acc++Gz (L.take m))∧A6 w.heap.size w wr∧A6 W.heap.size W wr∧Hid (SLA wr va vc L)∧(∀ ad,va=A2 ad→v.ownBlock≠A2 ad.block∧ad.block<wr.heap.size)) (fun _ i _=>L.length - (Ad i).toNat)
          case atStart=>exact⟨0,Ae _,rfl,by rw[Bt,Ix.numL_nil,AD];exact own3,k2,kW,HSV,fun ad h=>⟨fun e=>by have:=(hown.lt _ e).2;have:=(hlo2 ad h).1;omega,(hlo2 ad h).2⟩⟩
          case round =>
            obtain⟨m,hm,rfl,hown4,hb4,hbW4,hs4,hne4⟩:=hrel
            have hbs4:=hb4.size
            have hbWs4:=hbW4.size
            by_cases hlt2:m<L.length
            · obtain⟨x,hx⟩:∃ x,L[m]?=A2 x:=⟨_,A7 hlt2⟩
              obtain⟨B2,o2,rfl,hbl2,e2⟩:=hs4.out.get hx
              have hxs:=HLZ.out x (Ag hx)
              have hnt:=Ix.numL_take hx
              have hnl:=Ix.numL_le (L.take m)
              rw[Az]at hnl
              obtain⟨PL,hPL⟩:∃ P,Ix.plainB x.data.toList=P:=⟨_,rfl⟩
              rw[hPL]at hnt
              have HPL:=J hPL
              clear hPL hx
              by_cases hP:PL=[]
              · subst hP
                rw[if_pos rfl,AD]at hnt
                have HNT:=J hnt;clear hnt
                go_wp2_with (go_at_call 143;((with_reducible refine (r20_plain_c x _ (by omega)).mono ?_);rintro e w5 ⟨rfl,hb5⟩;rw[HPL.out];have s5:=hb5.size))
                go_roundw
                case rel=>exact⟨m+1,hlt2,by go_num,by rw[HNT.out];exact own_below hown4 hb5,A8 hb4 hb5,A8 hbW4 hb5,J (hs4.out.below hb5),fun ad h=>⟨(hne4 ad h).1,by have:=(hne4 ad h).2;omega⟩⟩
                case measure=>simp[Ad];omega
              · rw[if_neg hP]at hnt
                have HNT:=J hnt;clear hnt
                obtain⟨P,hPP⟩:∃ P:ByteArray,(⟨PL.toArray⟩:ByteArray)=P:=⟨_,rfl⟩
                have hPe:(P.toList == [])=false:=by rw[AA,← hPP];simpa using hP
                have HPP:=J hPP;clear hPP
                have HK:Hid ((acc++Gz (L.take m)).length≤1500000):=J (by rw[Af];omega)
                go_wp2_with (first
                  |(at_builtin;go_must (refine wpList_append_sl rfl _ _ 26 rfl W.heap.size 9 i0 _ 1 16 Bb HI.out hz0 hz1 hz2 rfl (by decide) _ (acc++Gz (L.take m)).length _ rfl (HO6.out.alloc _) (A2 ⟨_,0,A4⟩) 1 1 [AW P] rfl rfl (fun h9=>by cases h9) (fun ad had=>by cases had;exact Br.cells_new_at _ _ (by first | rfl | simp) _ _) (by simp[AT]) (by unfold maxLen;have:=HK.out;omega) (by have:=HK.out;omega) (by simp;omega) ?_);intro v' w7 hown7 hg7 hnil7)
                  |(go_at_call 143;((with_reducible refine (r20_plain_c x w5 (by omega)).mono ?_);rintro e w6 ⟨rfl,hb6⟩;rw[HPL.out,HPP.out];have s6:=hb6.size;have HO6:=J (own_below (own_below hown4 hb5) hb6)))
                  |(go_at_call 143;((with_reducible refine (r20_plain_c x _ (by omega)).mono ?_);rintro e w5 ⟨rfl,hb5⟩;rw[HPL.out,HPP.out];have s5:=hb5.size;have e5:=A0 hb5 e2)))
                have hW6:=A8 (A8 hbW4 hb5) hb6
                have hg6:A6 W.heap.size W w7:=(hW6.alloc hW6.size _).grown hg7 (by simp;omega) (fun i hi=>(hown4.lt i hi).1)
                have s7:=hg7.size
                rw[Bn]at s7
                go_roundw
                case rel=>exact⟨m+1,hlt2,by go_num,by unfold AX;rw[HNT.out,← B0,Af,AS];rw[← HPP.out]at hown7;exact hown7,A8 hB hg6,hg6,J ((((hs4.out.below hb5).below hb6).below (Aa _ _)).grown hg7 (fun g hg e=>(hne4 g hg).1 e.symm)),fun ad h=>⟨fun e=>by
                      rcases hnil7 with h9 | h9
                      · rw[h9]at e;exact (hne4 ad h).1 e
                      · rw[h9]at e;injection e with e;have:=(hne4 ad h).2;simp at e;omega,by have:=(hne4 ad h).2;omega⟩⟩
                case measure=>simp[Ad];omega
            · obtain rfl:m=L.length:=by omega
              rw[Ap]at hown4
              go_wp2
              go_roundw
              case rel=>exact⟨k+1,hlt,by go_num,by rw[HPT.out];exact hown4,hb4,hbW4⟩
              case measure=>simp[Ad];omega
        · have b1:AQ [48,50,50] f=false:=by unfold AQ;rw[← AA];exact t1
          have hti:¬ Ha f=true:=by unfold Ha;rw[b0,b1];simp
          clear b0 b1
          rw[if_neg hti,AD]at hpt
          have HPT:=J hpt
          clear hpt hti hf
          go_wp2
          go_roundw
          case rel=>exact⟨k+1,hlt,by go_num,by rw[HPT.out];exact hown,hb,hbW⟩
          case measure=>simp[Ad];omega
    · obtain rfl:k=fs.length:=by omega
      rw[Ap]at hown
      go_wp2
      go_ret
      exact⟨_,rfl,Cr hown hbB,hb⟩
theorem r20_Terms_14 (fs:List BS) (a:Option Addr) (c:Nat) (id ver kind:Int) (lang:ByteArray) (k:Nat) (h1:1≤k) (h4:k≤4) (w:A9) (h:AV w a c fs) (hM:EI fs) :
  Ac A3 70 #[.agg #[.int .i64 id,.int .i64 ver,.int .i64 kind,.string lang,.slice a fs.length c],.int .i64 k] w fun e w'=>∃ v,e=.returned v∧AX w' w.heap.size v (F7 fs k)∧A6 w.heap.size w w':=by
 rcases (by omega:k=1∨k=2∨k=3∨k=4) with rfl | rfl | rfl | rfl
 ·exact r20_Terms_1 fs a c id ver kind lang w h hM
 ·exact r20_Terms_2 fs a c id ver kind lang w h hM
 ·exact r20_Terms_3 fs a c id ver kind lang w h hM
 ·exact r20_Terms_4 fs a c id ver kind lang w h hM
theorem r20_Terms_0 (fs:List BS) (a:Option Addr) (c:Nat) (id ver kind:Int) (lang:ByteArray) (w:A9) (h:AV w a c fs) (hM:EI fs) :
  Ac A3 70 #[.agg #[.int .i64 id,.int .i64 ver,.int .i64 kind,.string lang,.slice a fs.length c],.int .i64 0] w fun e w'=>∃ v,e=.returned v∧AX w' w.heap.size v (Cw fs 0)∧A6 w.heap.size w w':=by
 obtain⟨W,hW⟩:∃ W,w.alloc (.cells #[.int .i64 id,.int .i64 ver,.int .i64 kind,.string lang,.slice a fs.length c] 51)=W:=⟨_,rfl⟩
 have hB:A6 w.heap.size w W:=by rw[← hW];exact Aa _ _
 have c0:W.cell? ⟨w.heap.size,0,A4⟩=A2 (.int .i64 id):=by rw[← hW];simp
 have c1:W.cell? ⟨w.heap.size,1,A4⟩=A2 (.int .i64 ver):=by rw[← hW];simp
 have c2:W.cell? ⟨w.heap.size,2,A4⟩=A2 (.int .i64 kind):=by rw[← hW];simp
 have c3:W.cell? ⟨w.heap.size,3,A4⟩=A2 (.string lang):=by rw[← hW];simp
 have c4:W.cell? ⟨w.heap.size,4,A4⟩=A2 (.slice a fs.length c):=by rw[← hW];simp
 have HS:=J (h.below hB);clear h
 have hbB:=hB.size
 have CT:Hid (∀ (k:Nat) w',1≤k→k≤4→A6 W.heap.size W w'→Ac A3 70 #[.agg #[.int .i64 id,.int .i64 ver,.int .i64 kind,.string lang,.slice a fs.length c],.int .i64 k] w' fun e w''=>∃ v,e=.returned v∧AX w'' w'.heap.size v (F7 fs k)∧A6 w'.heap.size w' w''):=J (fun k w' h1 h4 hb=>r20_Terms_14 fs a c id ver kind lang k h1 h4 w' (HS.out.below hb) hM)
 have CB:Hid (∀ w',A6 W.heap.size W w'→Ac A3 141 #[.agg #[.int .i64 id,.int .i64 ver,.int .i64 kind,.string lang,.slice a fs.length c],.int .u8 53,.string ⟨#[97]⟩] w' fun e w''=>∃ v,e=.returned v∧AX w'' w'.heap.size v (Cz (Ix.begB 53) [97] fs)∧A6 w'.heap.size w' w''):=J (fun w' hb=>r20_begun_c fs a c id ver kind lang 53 ⟨#[97]⟩ w' (HS.out.below hb) hM (by decide))
 have HM:=J hM;clear hM
 go_enter GV,Gl
 go_wp2
 clear hW
 go_loopw [5,12] (fun v i wr=>∃ (k:Nat),k≤4∧i=.int .i64 (k+1)∧AX wr W.heap.size v (K0 fs k)∧A6 W.heap.size W wr) (fun _ i _=>5 - (Ad i).toNat)
 case atStart=>exact⟨0,Ae _,by go_num,AH _ _ _ _,Ab _ _⟩
 case round =>
  obtain⟨k,hk,rfl,hown,hb⟩:=hrel
  have hbs:=hb.size
  replace c0:=A0 hb c0
  replace c1:=A0 hb c1
  replace c2:=A0 hb c2
  replace c3:=A0 hb c3
  replace c4:=A0 hb c4
  have hl:=Ix.termsTo_len HM.out k
  obtain⟨oa,oc,rfl,hso⟩:=C9 hown
  have HSO:=J hso;clear hso
  by_cases hlt:k<4
  ·have hl2:=Ix.term_len HM.out (k+1)
   have HT:=J (Ix.termsTo_succ fs k)
   have hk1:((k:Int)+1)≤4:=by omega
   have hcast:((k+1:Nat):Int)=(k:Int)+1:=by omega
   have CK:Hid (∀ w',A6 W.heap.size W w'→Ac A3 70 #[.agg #[.int .i64 id,.int .i64 ver,.int .i64 kind,.string lang,.slice a fs.length c],.int .i64 ((k:Int)+1)] w' fun e w''=>∃ v,e=.returned v∧AX w'' w'.heap.size v (F7 fs (k+1))∧A6 w'.heap.size w' w''):=J (fun w' hb=>by
    have h9:=CT.out (k+1) w' (by omega) (by omega) hb
    rw[hcast]at h9
    exact h9)
   clear hcast
   go_wp2_with (first
    |(go_at_call 138;((with_reducible refine (r20_joined_c (K0 fs k) (F7 fs (k+1)) oa va oc vc _ (HSO.out.below hb2) HSV.out (by omega)).mono ?_);rintro e w3 ⟨v3,rfl,hown3,hb3⟩;have s3:=hb3.size))
    |(go_at_call 70;((with_reducible refine (CK.out _ hb).mono ?_);rintro e w2 ⟨v2,rfl,hown2,hb2⟩;obtain⟨va,vc,rfl,hsv⟩:=C9 hown2;have HSV:=J hsv;clear hsv hown2;have s2:=hb2.size)))
   go_roundw
   case rel=>exact⟨k+1,by omega,by go_num,by rw[HT.out];exact Cr hown3 (by omega),A8 (A8 hb hb2) hb3⟩
   case measure=>simp[Ad];omega
  ·obtain rfl:k=4:=by omega
   have hl2:=Ix.pick_len (p:=Ix.begB 53) (codes:=[97]) HM.out
   have HT:=J (Ix.terms_zero fs)
   clear hlt hk
   go_wp2_with (first
    |(go_at_call 138;((with_reducible refine (r20_joined_c (K0 fs 4) (Cz (Ix.begB 53) [97] fs) oa va oc vc _ (HSO.out.below hb2) HSV.out (by omega)).mono ?_);rintro e w3 ⟨v3,rfl,hown3,hb3⟩;have s3:=hb3.size))
    |(go_at_call 141;((with_reducible refine (CB.out _ hb).mono ?_);rintro e w2 ⟨v2,rfl,hown2,hb2⟩;obtain⟨va,vc,rfl,hsv⟩:=C9 hown2;have HSV:=J hsv;clear hsv hown2;have s2:=hb2.size)))
   go_ret
   exact⟨_,rfl,by rw[HT.out];exact Cr hown3 (by omega),A8 (A8 (A8 hB hb) hb2) hb3⟩
theorem r20_Terms_x (fs:List BS) (a:Option Addr) (c:Nat) (id ver kind:Int) (lang:ByteArray) (x:Int) (hx:x<0∨4<x) (w:A9) :
  Ac A3 70 #[.agg #[.int .i64 id,.int .i64 ver,.int .i64 kind,.string lang,.slice a fs.length c],.int .i64 x] w fun e w'=>∃ v,e=.returned v∧AX w' w.heap.size v []∧A6 w.heap.size w w':=by
 obtain⟨W,hW⟩:∃ W,w.alloc (.cells #[.int .i64 id,.int .i64 ver,.int .i64 kind,.string lang,.slice a fs.length c] 51)=W:=⟨_,rfl⟩
 have hB:A6 w.heap.size w W:=by rw[← hW];exact Aa _ _
 have c0:W.cell? ⟨w.heap.size,0,A4⟩=A2 (.int .i64 id):=by rw[← hW];simp
 have c1:W.cell? ⟨w.heap.size,1,A4⟩=A2 (.int .i64 ver):=by rw[← hW];simp
 have c2:W.cell? ⟨w.heap.size,2,A4⟩=A2 (.int .i64 kind):=by rw[← hW];simp
 have c3:W.cell? ⟨w.heap.size,3,A4⟩=A2 (.string lang):=by rw[← hW];simp
 have c4:W.cell? ⟨w.heap.size,4,A4⟩=A2 (.slice a fs.length c):=by rw[← hW];simp
 have t0:(x == 0)=false:=by simp;omega
 have t1:(x == 1)=false:=by simp;omega
 have t2:(x == 2)=false:=by simp;omega
 have t3:(x == 3)=false:=by simp;omega
 have t4:(x == 4)=false:=by simp;omega
 clear hx
 go_enter GV,Gl
 go_wp2
 go_ret
 exact⟨_,rfl,AH _ _ _ _,hB⟩
theorem r20_Terms_c (fs:List BS) (a:Option Addr) (c:Nat) (id ver kind:Int) (lang:ByteArray) (x:Int) (w:A9) (h:AV w a c fs) (hM:EI fs) :
  Ac A3 70 #[.agg #[.int .i64 id,.int .i64 ver,.int .i64 kind,.string lang,.slice a fs.length c],.int .i64 x] w fun e w'=>∃ v,e=.returned v∧AX w' w.heap.size v (Cw fs x)∧A6 w.heap.size w w':=by
 by_cases h0:x=0
 ·subst h0
  exact r20_Terms_0 fs a c id ver kind lang w h hM
 ·unfold Cw
  rw[if_neg h0]
  by_cases h4:1≤x∧x≤4
  ·rw[if_pos h4]
   obtain⟨k,rfl⟩:∃ k:Nat,x=k:=⟨x.toNat,by omega⟩
   exact r20_Terms_14 fs a c id ver kind lang k (by omega) (by omega) w h hM
  ·rw[if_neg h4]
   exact r20_Terms_x fs a c id ver kind lang x (by omega) w
end Go.Proofs.YtlakomilichhnaaGreatDoor
