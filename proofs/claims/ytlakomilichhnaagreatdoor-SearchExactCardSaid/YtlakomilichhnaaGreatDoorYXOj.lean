/- Texts of this seat's, what the claim needs of them. -/
import Derived.Test.YtlakomilichhnaaGreatDoorYXOf
import Derived.Test.YtlakomilichhnaaGreatDoorZOj
namespace Go.Proofs.YtlakomilichhnaaGreatDoor
set_option maxHeartbeats 6400000
set_option maxRecDepth 100000
open Go.RowKit
open Bool renaming eq_false_or_eq_true→CV,false_or→GZ,true_or→JD
open Br renaming cells_new_at→AR
open Go renaming Addr→Ao,Calls→Ac,Value→Ah,World→A9,bodyPost_ret→DF,cell_later→A0,heap_alloc_new→Ar,info_parts→BR
open Ix renaming Mod→EI,OwnT→AX,PT→Cx,Post→EP,PsA→Zq,authB→Eb,firsts→Fo,insT→Hy,mkp→Nx,numB→Ha,numL→Gz,own_lower→Cr,own_sla→C9,pick→Cz,postsTo→Fc,term→F7,terms→Cw,termsTo→K0,wordsF→EZ
open Lib renaming hid→J,toList_data→AA
open List renaming any_cons→Lh,append_assoc→B0,append_nil→AD,getElem?_eq_getElem→A7,getElem?_eq_some_iff→Ai,getElem?_map→AE,length→Cd,length_append→Af,length_filter_le→Bo,length_map→At,length_take→Az,map_append→AS,mem_filter→B8,mem_map→B3,mem_of_getElem?→Ag,mem_of_mem_take→Cb,take_length→Ap,take_zero→Bt
open Nat renaming add_zero→Bs,le_refl→An,le_trans→AK,zero_le→Ae
open Option renaming none→A4,some→A2
open Proofs.Tryz renaming func70→GV,ntmps70→Gl,prog→A3,underlying26→Bb
open Rc renaming Fl→BS,FldA→AV,allV→BX,tagIs→AQ
open RowKit renaming Below→A6,intOf→Ad
open RowKit.Below renaming heap_setCell→Ea,refl→Ab
open Tx renaming below_drewN→Ba,blk→Aq,blk_later→Aj,newb→Aa,step→A8
open Value renaming oneCell'→AT,string→AW
open World renaming ownsRow_nil→AH,setCell→CO,size_alloc→Bn
open _root_.Array renaming getElem?_eq_some_iff→AN,getElem?_modify→EE
namespace Rc
end Rc
theorem r20_Terms_2 (fs:List BS) (a:Option Ao) (c:Nat) (id ver kind:Int) (lang:ByteArray)  (w:A9) (h:AV w a c fs) (hM:EI fs)  :
  Ac A3 70 #[.agg #[.int .i64 id,.int .i64 ver,.int .i64 kind,.string lang,.slice a fs.length c],.int .i64 2] w fun e w'=>∃ v,e=.returned v∧AX w' w.heap.size v (F7 fs 2)∧A6 w.heap.size w w':=by
 obtain⟨W,hW⟩:∃ W,w.alloc (.cells #[.int .i64 id,.int .i64 ver,.int .i64 kind,.string lang,.slice a fs.length c] 51)=W:=⟨_,rfl⟩
 have hB:A6 w.heap.size w W:=by rw[← hW];exact Aa _ _
 have c4:W.cell? ⟨w.heap.size,4,A4⟩=A2 (.slice a fs.length c):=by rw[← hW];simp
 have HS:=J (h.below hB);clear h
 have hlen:=hM.len
 have hcap:=HS.out.cap
 have hbB:=hB.size
 go_enter GV,Gl
 go_wp2
 clear hW
 go_loopw [5,6] (fun v i wr=>∃ (k:Nat),k≤fs.length∧i=.int .i64 k∧AX wr w.heap.size v (Cz Eb [97] (fs.take k))∧A6 w.heap.size w wr∧A6 W.heap.size W wr) (fun _ i _=>fs.length - (Ad i).toNat)
 case atStart=>exact⟨0,Ae _,rfl,AH _ _ _ _,hB,Ab _ _⟩
 case round =>
  obtain⟨k,hk,rfl,hown,hb,hbW⟩:=hrel
  have hbs:=hb.size
  have hbWs:=hbW.size
  replace c4:=A0 hbW c4
  by_cases hlt:k<fs.length
  ·obtain⟨f,hf⟩:∃ f,fs[k]?=A2 f:=⟨_,A7 hlt⟩
   have hfm:=Ag hf
   obtain⟨B,o,sa,sc,rfl,hbl,d0,d1,d2,d3,hsub⟩:=HS.out.get hf
   replace d0:=A0 hbW d0
   replace d1:=A0 hbW d1
   replace d2:=A0 hbW d2
   replace d3:=A0 hbW d3
   have HSUB:=J (hsub.below hbW);clear hsub
   have hpt:=Ix.pick_take (p:=Eb) (codes:=[97]) hf
   have hpl:=Ix.pick_le (p:=Eb) (codes:=[97]) (fs:=fs.take k) (fun g hg=>hM.words g (Cb hg) _)
   rw[Az]at hpl
   have hwf:=hM.words f hfm [97]
   have hsl:=hM.subs f hfm
   have HSZ:=J (hM.size f hfm)
   obtain⟨acc,hacc⟩:∃ acc,Cz Eb [97] (fs.take k)=acc:=⟨_,rfl⟩
   rw[hacc]at hown hpt hpl
   have hpl2:acc.length≤1000000:=by omega
   clear hpl hacc
   rcases CV (f.tag.toList == [49,48,48]) with t0 | t0
   ·have b0:AQ [49,48,48] f=true:=by unfold AQ;rw[← AA];exact t0
    have hti:Eb f=true:=by unfold Eb;rw[b0];simp
    rw[if_pos hti]at hpt
    clear b0
    obtain⟨WF,hWF⟩:∃ ws,EZ f [97]=ws:=⟨_,rfl⟩
    rw[hWF]at hpt hwf
    have HPT:=J hpt;have HWF:=J hWF
    clear hpt hWF hti hf
    have CW:Hid (∀ w',A6 wr.heap.size wr w'→Ac A3 140 #[.agg #[.string f.tag,.string f.ind,.slice sa f.subs.length sc,.int .i64 f.auth],.string ⟨#[97]⟩] w' fun e w''=>∃ v,e=.returned v∧AX w'' w'.heap.size v WF∧A6 w'.heap.size w' w''):=J (fun w' hb'=>by
     have h9:=r20_words_c f sa sc ⟨#[97]⟩ w' (HSUB.out.below hb') hsl (by decide) HSZ.out (by rw[show (⟨#[97]⟩:ByteArray).data.toList=[97] from rfl,HWF.out];omega)
     rw[show (⟨#[97]⟩:ByteArray).data.toList=[97] from rfl,HWF.out]at h9
     exact h9)
    obtain⟨oa,oc,rfl,hso⟩:=C9 hown
    have HSO:=J hso;clear hso
    go_wp2_with (first
     |(go_at_call 138;((with_reducible refine (r20_joined_c acc WF oa va oc vc _ (HSO.out.below hb2) HSV.out (by omega)).mono ?_);rintro e w3 ⟨v3,rfl,hown3,hb3⟩;have s3:=hb3.size))
     |(go_at_call 140;((with_reducible refine (CW.out _ (Ab _ _)).mono ?_);rintro e w2 ⟨v2,rfl,hown2,hb2⟩;obtain⟨va,vc,rfl,hsv⟩:=C9 hown2;have HSV:=J hsv;clear hsv hown2;have s2:=hb2.size)))
    go_roundw
    case rel=>exact⟨k+1,hlt,by go_num,by rw[HPT.out];exact Cr hown3 (by omega),A8 (A8 hb hb2) hb3,A8 (A8 hbW hb2) hb3⟩
    case measure=>simp[Ad];omega
   ·have b0:AQ [49,48,48] f=false:=by unfold AQ;rw[← AA];exact t0
    rcases CV (f.tag.toList == [49,49,48]) with t1 | t1
    ·have b1:AQ [49,49,48] f=true:=by unfold AQ;rw[← AA];exact t1
     have hti:Eb f=true:=by unfold Eb;rw[b1];simp
     rw[if_pos hti]at hpt
     clear b0 b1
     obtain⟨WF,hWF⟩:∃ ws,EZ f [97]=ws:=⟨_,rfl⟩
     rw[hWF]at hpt hwf
     have HPT:=J hpt;have HWF:=J hWF
     clear hpt hWF hti hf
     have CW:Hid (∀ w',A6 wr.heap.size wr w'→Ac A3 140 #[.agg #[.string f.tag,.string f.ind,.slice sa f.subs.length sc,.int .i64 f.auth],.string ⟨#[97]⟩] w' fun e w''=>∃ v,e=.returned v∧AX w'' w'.heap.size v WF∧A6 w'.heap.size w' w''):=J (fun w' hb'=>by
      have h9:=r20_words_c f sa sc ⟨#[97]⟩ w' (HSUB.out.below hb') hsl (by decide) HSZ.out (by rw[show (⟨#[97]⟩:ByteArray).data.toList=[97] from rfl,HWF.out];omega)
      rw[show (⟨#[97]⟩:ByteArray).data.toList=[97] from rfl,HWF.out]at h9
      exact h9)
     obtain⟨oa,oc,rfl,hso⟩:=C9 hown
     have HSO:=J hso;clear hso
     go_wp2_with (first
      |(go_at_call 138;((with_reducible refine (r20_joined_c acc WF oa va oc vc _ (HSO.out.below hb2) HSV.out (by omega)).mono ?_);rintro e w3 ⟨v3,rfl,hown3,hb3⟩;have s3:=hb3.size))
      |(go_at_call 140;((with_reducible refine (CW.out _ (Ab _ _)).mono ?_);rintro e w2 ⟨v2,rfl,hown2,hb2⟩;obtain⟨va,vc,rfl,hsv⟩:=C9 hown2;have HSV:=J hsv;clear hsv hown2;have s2:=hb2.size)))
     go_roundw
     case rel=>exact⟨k+1,hlt,by go_num,by rw[HPT.out];exact Cr hown3 (by omega),A8 (A8 hb hb2) hb3,A8 (A8 hbW hb2) hb3⟩
     case measure=>simp[Ad];omega
    ·have b1:AQ [49,49,48] f=false:=by unfold AQ;rw[← AA];exact t1
     rcases CV (f.tag.toList == [55,48,48]) with t2 | t2
     ·have b2:AQ [55,48,48] f=true:=by unfold AQ;rw[← AA];exact t2
      have hti:Eb f=true:=by unfold Eb;rw[b2];simp
      rw[if_pos hti]at hpt
      clear b0 b1 b2
      obtain⟨WF,hWF⟩:∃ ws,EZ f [97]=ws:=⟨_,rfl⟩
      rw[hWF]at hpt hwf
      have HPT:=J hpt;have HWF:=J hWF
      clear hpt hWF hti hf
      have CW:Hid (∀ w',A6 wr.heap.size wr w'→Ac A3 140 #[.agg #[.string f.tag,.string f.ind,.slice sa f.subs.length sc,.int .i64 f.auth],.string ⟨#[97]⟩] w' fun e w''=>∃ v,e=.returned v∧AX w'' w'.heap.size v WF∧A6 w'.heap.size w' w''):=J (fun w' hb'=>by
       have h9:=r20_words_c f sa sc ⟨#[97]⟩ w' (HSUB.out.below hb') hsl (by decide) HSZ.out (by rw[show (⟨#[97]⟩:ByteArray).data.toList=[97] from rfl,HWF.out];omega)
       rw[show (⟨#[97]⟩:ByteArray).data.toList=[97] from rfl,HWF.out]at h9
       exact h9)
      obtain⟨oa,oc,rfl,hso⟩:=C9 hown
      have HSO:=J hso;clear hso
      go_wp2_with (first
       |(go_at_call 138;((with_reducible refine (r20_joined_c acc WF oa va oc vc _ (HSO.out.below hb2) HSV.out (by omega)).mono ?_);rintro e w3 ⟨v3,rfl,hown3,hb3⟩;have s3:=hb3.size))
       |(go_at_call 140;((with_reducible refine (CW.out _ (Ab _ _)).mono ?_);rintro e w2 ⟨v2,rfl,hown2,hb2⟩;obtain⟨va,vc,rfl,hsv⟩:=C9 hown2;have HSV:=J hsv;clear hsv hown2;have s2:=hb2.size)))
      go_roundw
      case rel=>exact⟨k+1,hlt,by go_num,by rw[HPT.out];exact Cr hown3 (by omega),A8 (A8 hb hb2) hb3,A8 (A8 hbW hb2) hb3⟩
      case measure=>simp[Ad];omega
     ·have b2:AQ [55,48,48] f=false:=by unfold AQ;rw[← AA];exact t2
      rcases CV (f.tag.toList == [55,49,48]) with t3 | t3
      ·have b3:AQ [55,49,48] f=true:=by unfold AQ;rw[← AA];exact t3
       have hti:Eb f=true:=by unfold Eb;rw[b3];simp
       rw[if_pos hti]at hpt
       clear b0 b1 b2 b3
       obtain⟨WF,hWF⟩:∃ ws,EZ f [97]=ws:=⟨_,rfl⟩
       rw[hWF]at hpt hwf
       have HPT:=J hpt;have HWF:=J hWF
       clear hpt hWF hti hf
       have CW:Hid (∀ w',A6 wr.heap.size wr w'→Ac A3 140 #[.agg #[.string f.tag,.string f.ind,.slice sa f.subs.length sc,.int .i64 f.auth],.string ⟨#[97]⟩] w' fun e w''=>∃ v,e=.returned v∧AX w'' w'.heap.size v WF∧A6 w'.heap.size w' w''):=J (fun w' hb'=>by
        have h9:=r20_words_c f sa sc ⟨#[97]⟩ w' (HSUB.out.below hb') hsl (by decide) HSZ.out (by rw[show (⟨#[97]⟩:ByteArray).data.toList=[97] from rfl,HWF.out];omega)
        rw[show (⟨#[97]⟩:ByteArray).data.toList=[97] from rfl,HWF.out]at h9
        exact h9)
       obtain⟨oa,oc,rfl,hso⟩:=C9 hown
       have HSO:=J hso;clear hso
       go_wp2_with (first
        |(go_at_call 138;((with_reducible refine (r20_joined_c acc WF oa va oc vc _ (HSO.out.below hb2) HSV.out (by omega)).mono ?_);rintro e w3 ⟨v3,rfl,hown3,hb3⟩;have s3:=hb3.size))
        |(go_at_call 140;((with_reducible refine (CW.out _ (Ab _ _)).mono ?_);rintro e w2 ⟨v2,rfl,hown2,hb2⟩;obtain⟨va,vc,rfl,hsv⟩:=C9 hown2;have HSV:=J hsv;clear hsv hown2;have s2:=hb2.size)))
       go_roundw
       case rel=>exact⟨k+1,hlt,by go_num,by rw[HPT.out];exact Cr hown3 (by omega),A8 (A8 hb hb2) hb3,A8 (A8 hbW hb2) hb3⟩
       case measure=>simp[Ad];omega
      ·have b3:AQ [55,49,48] f=false:=by unfold AQ;rw[← AA];exact t3
       have hti:¬ Eb f=true:=by unfold Eb;rw[b0,b1,b2,b3];simp
       clear b0 b1 b2 b3
       rw[if_neg hti,AD]at hpt
       have HPT:=J hpt
       clear hpt hti hf
       go_wp2
       go_roundw
       case rel=>exact⟨k+1,hlt,by go_num,by rw[HPT.out];exact hown,hb,hbW⟩
       case measure=>simp[Ad];omega
  ·obtain rfl:k=fs.length:=by omega
   rw[Ap]at hown
   go_wp2
   go_ret
   exact⟨_,rfl,hown,hb⟩
theorem r07_All_own_c (f:BS) (a:Option Ao) (c:Nat) (codes:ByteArray) (w:A9) (h:Rc.SubA w a c f.subs) (hl:f.subs.length≤1000) (hs:codes.size≤1000) :
  Ac A3 142 #[.agg #[.string f.tag,.string f.ind,.slice a f.subs.length c,.int .i64 f.auth],.string codes] w fun e w'=>∃ v,e=.returned v∧w'.ownsRow w.heap.size 9 1 v (BX f.subs codes.data.toList).length ((BX f.subs codes.data.toList).map AW)∧A6 w.heap.size w w':=by
 obtain⟨i0,hi0,hz0,hz1,hz2⟩:=BR info_str
 obtain⟨W,hW⟩:∃ W,w.alloc (.cells #[.string f.tag,.string f.ind,.slice a f.subs.length c,.int .i64 f.auth] 84)=W:=⟨_,rfl⟩
 have hB:A6 w.heap.size w W:=by rw[← hW];exact Aa _ _
 have c2:W.cell? ⟨w.heap.size,2,A4⟩=A2 (.slice a f.subs.length c):=by rw[← hW];simp
 have hS:=h.below hB
 have hcap:=h.cap
 go_enter Tryz.func142,Tryz.ntmps142
 go_wp2
 clear hW
 go_loopw [5,6] (fun v i wr=>∃ (k:Nat) (L:List ByteArray),k≤f.subs.length∧i=.int .i64 k∧Hid (L=BX (f.subs.take k) codes.data.toList)∧L.length≤k∧wr.ownsRow W.heap.size 9 1 v L.length (L.map AW)∧A6 W.heap.size W wr) (fun _ i _=>f.subs.length - (Ad i).toNat)
 case atStart=>exact⟨0,[],Ae _,rfl,J rfl,An _,AH _ _ _ _,Ab _ _⟩
 case round =>
  obtain⟨k,L,hk,rfl,hL,hLk,hown,hb⟩:=hrel
  have hbs:=hb.size
  have hbw:=A8 hB hb
  replace c2:=A0 hb c2
  by_cases hlt:k<f.subs.length
  ·obtain⟨x,hx⟩:∃ x,f.subs[k]?=A2 x:=⟨_,A7 hlt⟩
   obtain⟨b,o,rfl,hbl,c0,c1⟩:=hS.get hx
   replace c0:=A0 hb c0
   replace c1:=A0 hb c1
   have hT:=Rc.allV_take codes.data.toList hx
   cases hH:Rc.hasCode codes.data.toList x.1 with
   | true =>
    rw[if_pos hH,← hL.out]at hT
    have HT:=J hT;clear hT
    have HH:=J hH;clear hH hx
    go_wp2_with (first
     |(go_at_call 213;refine (r07_in_c x.1 codes _ (by omega)).mono ?_;rintro e w1 ⟨rfl,rfl⟩;rw[HH.out])
     |(at_builtin;go_must (refine wpList_append_own _ rfl _ _ 26 rfl W.heap.size 9 i0 (.string ⟨#[]⟩) 1 16 Bb hi0 hz0 hz1 hz2 rfl (by decide) _ L.length _ rfl (hown.alloc _) ⟨_,0,A4⟩ 1 1 [.string x.2] rfl rfl (Tx.cell_one_at _ _ (by first | rfl | simp) _ _) (by simp[AT]) (by unfold maxLen;omega) (by omega) (by simp;omega) ?_);intro v' w2 hown2 hg2 hnil2))
    have hb2:A6 W.heap.size W w2:=(hb.alloc hbs _).grown hg2 (by simp;omega) (fun j hj=>(hown.lt j hj).1)
    go_roundw
    case rel=>exact⟨k+1,L++[x.2],by omega,by go_num,J HT.out.symm,by simp;omega,by simpa using hown2,hb2⟩
    case measure=>simp[Ad];omega
   | false =>
    rw[if_neg (by simp[hH]),AD,← hL.out]at hT
    have HT:=J hT;clear hT
    have HH:=J hH;clear hH hx
    go_wp2_with (go_at_call 213;refine (r07_in_c x.1 codes _ (by omega)).mono ?_;rintro e w1 ⟨rfl,rfl⟩;rw[HH.out])
    go_roundw
    case rel=>exact⟨k+1,L,by omega,by go_num,J HT.out.symm,by omega,hown,hb⟩
    case measure=>simp[Ad];omega
  ·obtain rfl:k=f.subs.length:=by omega
   have hL2:=hL.out
   rw[Rc.take_all]at hL2
   subst hL2
   go_wp2
   go_ret
   exact⟨_,rfl,⟨hown.1,by
    rcases hown.2 with h1 | ⟨g,cap,cur,h1,h2,h3,h4⟩
    ·exact .inl h1
    ·exact .inr ⟨g,cap,cur,h1,by have:=hB.size;omega,h3,h4⟩⟩,hbw⟩
namespace Ix
open Rc
theorem numL_nil:numL []=[]:=rfl
theorem numL_take {L:List ByteArray}{k:Nat}{x:ByteArray} (h:L[k]?=A2 x):numL (L.take (k+1))=numL (L.take k)++(if plainB x.data.toList=[] then [] else [plainB x.data.toList]):=by
 have hlt:=(Ai.1 h).1
 unfold numL
 rw[List.take_succ_eq_append_getElem hlt,AS,List.filter_append]
 rw[A7 hlt]at h
 injection h with h
 rw[h]
 congr 1
 by_cases hp:plainB x.data.toList=[] <;> simp[hp]
end Ix
theorem r20_Terms_4 (fs:List BS) (a:Option Ao) (c:Nat) (id ver kind:Int) (lang:ByteArray)  (w:A9) (h:AV w a c fs) (hM:EI fs)  :
    Ac A3 70 #[.agg #[.int .i64 id,.int .i64 ver,.int .i64 kind,.string lang,.slice a fs.length c],.int .i64 4] w fun e w'=>∃ v,e=.returned v∧AX w' w.heap.size v (F7 fs 4)∧A6 w.heap.size w w':=by
  obtain⟨W,hW⟩:∃ W,w.alloc (.cells #[.int .i64 id,.int .i64 ver,.int .i64 kind,.string lang,.slice a fs.length c] 51)=W:=⟨_,rfl⟩
  have hB:A6 w.heap.size w W:=by rw[← hW];exact Aa _ _
  have c4:W.cell? ⟨w.heap.size,4,A4⟩=A2 (.slice a fs.length c):=by rw[← hW];simp
  have HS:=J (h.below hB);clear h
  have hlen:=hM.len
  have hcap:=HS.out.cap
  have hbB:=hB.size
  obtain⟨i0,hi0,hz0,hz1,hz2⟩:=BR info_str
  have HI:=J hi0;clear hi0
  go_enter GV,Gl
  go_wp2
  clear hW
  go_loopw [5,8] (fun v i wr=>∃ (k:Nat),k≤fs.length∧i=.int .i64 k∧AX wr W.heap.size v (Ix.nums (fs.take k))∧A6 w.heap.size w wr∧A6 W.heap.size W wr) (fun _ i _=>fs.length - (Ad i).toNat)
  case atStart=>exact⟨0,Ae _,rfl,AH _ _ _ _,hB,Ab _ _⟩
  case round =>
    obtain⟨k,hk,rfl,hown,hb,hbW⟩:=hrel
    have hbs:=hb.size
    have hbWs:=hbW.size
    replace c4:=A0 hbW c4
    by_cases hlt:k<fs.length
    · obtain⟨f,hf⟩:∃ f,fs[k]?=A2 f:=⟨_,A7 hlt⟩
      have hfm:=Ag hf
      obtain⟨B,o,sa,sc,rfl,hbl,d0,d1,d2,d3,hsub⟩:=HS.out.get hf
      replace d0:=A0 hbW d0
      replace d1:=A0 hbW d1
      replace d2:=A0 hbW d2
      replace d3:=A0 hbW d3
      have HSUB:=J (hsub.below hbW);clear hsub
      have hpt:=Ix.nums_take hf
      have hpl:=Ix.nums_le (fs:=fs.take k) (fun g hg=>hM.subs g (Cb hg))
      rw[Az]at hpl
      have hsl:=hM.subs f hfm
      have HSZ:=J (hM.size f hfm)
      obtain⟨acc,hacc⟩:∃ acc,Ix.nums (fs.take k)=acc:=⟨_,rfl⟩
      rw[hacc]at hown hpt hpl
      have hpl2:acc.length≤1000000:=by omega
      clear hpl hacc
      rcases CV (f.tag.toList == [48,50,48]) with t0 | t0
      · have b0:AQ [48,50,48] f=true:=by unfold AQ;rw[← AA];exact t0
        have hti:Ha f=true:=by unfold Ha;rw[b0];simp
        rw[if_pos hti]at hpt
        clear b0
        obtain⟨L,hL⟩:∃ L,BX f.subs [97]=L:=⟨_,rfl⟩
        have hLl:L.length≤1000:=by rw[← hL];unfold BX;rw[At];exact AK (Bo _ _) hsl
        have hLz:∀ x∈L,x.size≤100000:=fun x hx=>by
          rw[← hL]at hx
          unfold BX at hx
          obtain⟨y,hy,rfl⟩:=B3.1 hx
          exact HSZ.out y (B8.1 hy).1
        have hNF:Ix.numF f=Gz L:=by unfold Ix.numF Gz;rw[hL]
        rw[hNF]at hpt
        have HPT:=J hpt;have HL:=J hL;have HLZ:=J hLz
        clear hpt hL hLz hNF hti hf
        have CW:Hid (∀ w',A6 wr.heap.size wr w'→Ac A3 142 #[.agg #[.string f.tag,.string f.ind,.slice sa f.subs.length sc,.int .i64 f.auth],.string ⟨#[97]⟩] w' fun e w''=>∃ v,e=.returned v∧w''.ownsRow w'.heap.size 9 1 v L.length (L.map AW)∧A6 w'.heap.size w' w''):=J (fun w' hb'=>by
          have h9:=r07_All_own_c f sa sc ⟨#[97]⟩ w' (HSUB.out.below hb') hsl (by decide)
          rw[show (⟨#[97]⟩:ByteArray).data.toList=[97] from rfl,HL.out]at h9
          exact h9)
        go_wp2_with (go_at_call 142;((with_reducible refine (CW.out _ (Ab _ _)).mono ?_);rintro e w2 ⟨v2,rfl,hown2,hb2⟩;obtain⟨va,vc,rfl,hsv⟩:=SLA.of_own hown2 rfl;have HSV:=J hsv;have hlo2:∀ ad,va=A2 ad→wr.heap.size≤ad.block∧ad.block<w2.heap.size:=(fun ad h=>by subst h;exact hown2.lt _ rfl);clear hsv hown2;have s2:=hb2.size;have own3:=own_below hown hb2;have k2:=A8 hb hb2;have kW:=A8 hbW hb2))
        have hcap2:=HSV.out.cap
        have hw9:=IntWalk.i64_in ((k:Int)+1) ⟨by omega,by omega⟩
        go_loopw [5,11] (fun v i wr=>∃ (m:Nat),m≤L.length∧i=.int .i64 m∧AX wr W.heap.size v (acc++Gz (L.take m))∧A6 w.heap.size w wr∧A6 W.heap.size W wr∧Hid (SLA wr va vc L)∧(∀ ad,va=A2 ad→v.ownBlock≠A2 ad.block∧ad.block<wr.heap.size)) (fun _ i _=>L.length - (Ad i).toNat)
        case atStart=>exact⟨0,Ae _,rfl,by rw[Bt,Ix.numL_nil,AD];exact own3,k2,kW,HSV,fun ad h=>⟨fun e=>by have:=(hown.lt _ e).2;have:=(hlo2 ad h).1;omega,(hlo2 ad h).2⟩⟩
        case round =>
          obtain⟨m,hm,rfl,hown4,hb4,hbW4,hs4,hne4⟩:=hrel
          have hbs4:=hb4.size
          have hbWs4:=hbW4.size
          by_cases hlt2:m<L.length
          · obtain⟨x,hx⟩:∃ x,L[m]?=A2 x:=⟨_,A7 hlt2⟩
            obtain⟨B2,o2,rfl,hbl2,e2⟩:=hs4.out.get hx
            have hxs:=HLZ.out x (Ag hx)
            have hnt:=Ix.numL_take hx
            have hnl:=Ix.numL_le (L.take m)
            rw[Az]at hnl
            obtain⟨PL,hPL⟩:∃ P,Ix.plainB x.data.toList=P:=⟨_,rfl⟩
            rw[hPL]at hnt
            have HPL:=J hPL
            clear hPL hx
            by_cases hP:PL=[]
            · subst hP
              rw[if_pos rfl,AD]at hnt
              have HNT:=J hnt;clear hnt
              go_wp2_with (go_at_call 143;((with_reducible refine (r20_plain_c x _ (by omega)).mono ?_);rintro e w5 ⟨rfl,hb5⟩;rw[HPL.out];have s5:=hb5.size))
              go_roundw
              case rel=>exact⟨m+1,hlt2,by go_num,by rw[HNT.out];exact own_below hown4 hb5,A8 hb4 hb5,A8 hbW4 hb5,J (hs4.out.below hb5),fun ad h=>⟨(hne4 ad h).1,by have:=(hne4 ad h).2;omega⟩⟩
              case measure=>simp[Ad];omega
            · rw[if_neg hP]at hnt
              have HNT:=J hnt;clear hnt
              obtain⟨P,hPP⟩:∃ P:ByteArray,(⟨PL.toArray⟩:ByteArray)=P:=⟨_,rfl⟩
              have hPe:(P.toList == [])=false:=by rw[AA,← hPP];simpa using hP
              have HPP:=J hPP;clear hPP
              have HK:Hid ((acc++Gz (L.take m)).length≤1500000):=J (by rw[Af];omega)
              go_wp2_with (first
                |(at_builtin;go_must (refine wpList_append_sl rfl _ _ 26 rfl W.heap.size 9 i0 _ 1 16 Bb HI.out hz0 hz1 hz2 rfl (by decide) _ (acc++Gz (L.take m)).length _ rfl (HO6.out.alloc _) (A2 ⟨_,0,A4⟩) 1 1 [AW P] rfl rfl (fun h9=>by cases h9) (fun ad had=>by cases had;exact AR _ _ (by first | rfl | simp) _ _) (by simp[AT]) (by unfold maxLen;have:=HK.out;omega) (by have:=HK.out;omega) (by simp;omega) ?_);intro v' w7 hown7 hg7 hnil7)
                |(go_at_call 143;((with_reducible refine (r20_plain_c x w5 (by omega)).mono ?_);rintro e w6 ⟨rfl,hb6⟩;rw[HPL.out,HPP.out];have s6:=hb6.size;have HO6:=J (own_below (own_below hown4 hb5) hb6)))
                |(go_at_call 143;((with_reducible refine (r20_plain_c x _ (by omega)).mono ?_);rintro e w5 ⟨rfl,hb5⟩;rw[HPL.out,HPP.out];have s5:=hb5.size;have e5:=A0 hb5 e2)))
              have hW6:=A8 (A8 hbW4 hb5) hb6
              have hg6:A6 W.heap.size W w7:=(hW6.alloc hW6.size _).grown hg7 (by simp;omega) (fun i hi=>(hown4.lt i hi).1)
              have s7:=hg7.size
              rw[Bn]at s7
              go_roundw
              case rel=>exact⟨m+1,hlt2,by go_num,by unfold AX;rw[HNT.out,← B0,Af,AS];rw[← HPP.out]at hown7;exact hown7,A8 hB hg6,hg6,J ((((hs4.out.below hb5).below hb6).below (Aa _ _)).grown hg7 (fun g hg e=>(hne4 g hg).1 e.symm)),fun ad h=>⟨fun e=>by
                    rcases hnil7 with h9 | h9
                    · rw[h9]at e;exact (hne4 ad h).1 e
                    · rw[h9]at e;injection e with e;have:=(hne4 ad h).2;simp at e;omega,by have:=(hne4 ad h).2;omega⟩⟩
              case measure=>simp[Ad];omega
          · obtain rfl:m=L.length:=by omega
            rw[Ap]at hown4
            go_wp2
            go_roundw
            case rel=>exact⟨k+1,hlt,by go_num,by rw[HPT.out];exact hown4,hb4,hbW4⟩
            case measure=>simp[Ad];omega
      · have b0:AQ [48,50,48] f=false:=by unfold AQ;rw[← AA];exact t0
        rcases CV (f.tag.toList == [48,50,50]) with t1 | t1
        · have b1:AQ [48,50,50] f=true:=by unfold AQ;rw[← AA];exact t1
          have hti:Ha f=true:=by unfold Ha;rw[b1];simp
          rw[if_pos hti]at hpt
          clear b0 b1
          obtain⟨L,hL⟩:∃ L,BX f.subs [97]=L:=⟨_,rfl⟩
          have hLl:L.length≤1000:=by rw[← hL];unfold BX;rw[At];exact AK (Bo _ _) hsl
          have hLz:∀ x∈L,x.size≤100000:=fun x hx=>by
            rw[← hL]at hx
            unfold BX at hx
            obtain⟨y,hy,rfl⟩:=B3.1 hx
            exact HSZ.out y (B8.1 hy).1
          have hNF:Ix.numF f=Gz L:=by unfold Ix.numF Gz;rw[hL]
          rw[hNF]at hpt
          have HPT:=J hpt;have HL:=J hL;have HLZ:=J hLz
          clear hpt hL hLz hNF hti hf
          have CW:Hid (∀ w',A6 wr.heap.size wr w'→Ac A3 142 #[.agg #[.string f.tag,.string f.ind,.slice sa f.subs.length sc,.int .i64 f.auth],.string ⟨#[97]⟩] w' fun e w''=>∃ v,e=.returned v∧w''.ownsRow w'.heap.size 9 1 v L.length (L.map AW)∧A6 w'.heap.size w' w''):=J (fun w' hb'=>by
            have h9:=r07_All_own_c f sa sc ⟨#[97]⟩ w' (HSUB.out.below hb') hsl (by decide)
            rw[show (⟨#[97]⟩:ByteArray).data.toList=[97] from rfl,HL.out]at h9
            exact h9)
          go_wp2_with (go_at_call 142;((with_reducible refine (CW.out _ (Ab _ _)).mono ?_);rintro e w2 ⟨v2,rfl,hown2,hb2⟩;obtain⟨va,vc,rfl,hsv⟩:=SLA.of_own hown2 rfl;have HSV:=J hsv;have hlo2:∀ ad,va=A2 ad→wr.heap.size≤ad.block∧ad.block<w2.heap.size:=(fun ad h=>by subst h;exact hown2.lt _ rfl);clear hsv hown2;have s2:=hb2.size;have own3:=own_below hown hb2;have k2:=A8 hb hb2;have kW:=A8 hbW hb2))
          have hcap2:=HSV.out.cap
          have hw9:=IntWalk.i64_in ((k:Int)+1) ⟨by omega,by omega⟩
          go_loopw [5,11] (fun v i wr=>∃ (m:Nat),m≤L.length∧i=.int .i64 m∧AX wr W.heap.size v (acc++Gz (L.take m))∧A6 w.heap.size w wr∧A6 W.heap.size W wr∧Hid (SLA wr va vc L)∧(∀ ad,va=A2 ad→v.ownBlock≠A2 ad.block∧ad.block<wr.heap.size)) (fun _ i _=>L.length - (Ad i).toNat)
          case atStart=>exact⟨0,Ae _,rfl,by rw[Bt,Ix.numL_nil,AD];exact own3,k2,kW,HSV,fun ad h=>⟨fun e=>by have:=(hown.lt _ e).2;have:=(hlo2 ad h).1;omega,(hlo2 ad h).2⟩⟩
          case round =>
            obtain⟨m,hm,rfl,hown4,hb4,hbW4,hs4,hne4⟩:=hrel
            have hbs4:=hb4.size
            have hbWs4:=hbW4.size
            by_cases hlt2:m<L.length
            · obtain⟨x,hx⟩:∃ x,L[m]?=A2 x:=⟨_,A7 hlt2⟩
              obtain⟨B2,o2,rfl,hbl2,e2⟩:=hs4.out.get hx
              have hxs:=HLZ.out x (Ag hx)
              have hnt:=Ix.numL_take hx
              have hnl:=Ix.numL_le (L.take m)
              rw[Az]at hnl
              obtain⟨PL,hPL⟩:∃ P,Ix.plainB x.data.toList=P:=⟨_,rfl⟩
              rw[hPL]at hnt
              have HPL:=J hPL
              clear hPL hx
              by_cases hP:PL=[]
              · subst hP
                rw[if_pos rfl,AD]at hnt
                have HNT:=J hnt;clear hnt
                go_wp2_with (go_at_call 143;((with_reducible refine (r20_plain_c x _ (by omega)).mono ?_);rintro e w5 ⟨rfl,hb5⟩;rw[HPL.out];have s5:=hb5.size))
                go_roundw
                case rel=>exact⟨m+1,hlt2,by go_num,by rw[HNT.out];exact own_below hown4 hb5,A8 hb4 hb5,A8 hbW4 hb5,J (hs4.out.below hb5),fun ad h=>⟨(hne4 ad h).1,by have:=(hne4 ad h).2;omega⟩⟩
                case measure=>simp[Ad];omega
              · rw[if_neg hP]at hnt
                have HNT:=J hnt;clear hnt
                obtain⟨P,hPP⟩:∃ P:ByteArray,(⟨PL.toArray⟩:ByteArray)=P:=⟨_,rfl⟩
                have hPe:(P.toList == [])=false:=by rw[AA,← hPP];simpa using hP
                have HPP:=J hPP;clear hPP
                have HK:Hid ((acc++Gz (L.take m)).length≤1500000):=J (by rw[Af];omega)
                go_wp2_with (first
                  |(at_builtin;go_must (refine wpList_append_sl rfl _ _ 26 rfl W.heap.size 9 i0 _ 1 16 Bb HI.out hz0 hz1 hz2 rfl (by decide) _ (acc++Gz (L.take m)).length _ rfl (HO6.out.alloc _) (A2 ⟨_,0,A4⟩) 1 1 [AW P] rfl rfl (fun h9=>by cases h9) (fun ad had=>by cases had;exact AR _ _ (by first | rfl | simp) _ _) (by simp[AT]) (by unfold maxLen;have:=HK.out;omega) (by have:=HK.out;omega) (by simp;omega) ?_);intro v' w7 hown7 hg7 hnil7)
                  |(go_at_call 143;((with_reducible refine (r20_plain_c x w5 (by omega)).mono ?_);rintro e w6 ⟨rfl,hb6⟩;rw[HPL.out,HPP.out];have s6:=hb6.size;have HO6:=J (own_below (own_below hown4 hb5) hb6)))
                  |(go_at_call 143;((with_reducible refine (r20_plain_c x _ (by omega)).mono ?_);rintro e w5 ⟨rfl,hb5⟩;rw[HPL.out,HPP.out];have s5:=hb5.size;have e5:=A0 hb5 e2)))
                have hW6:=A8 (A8 hbW4 hb5) hb6
                have hg6:A6 W.heap.size W w7:=(hW6.alloc hW6.size _).grown hg7 (by simp;omega) (fun i hi=>(hown4.lt i hi).1)
                have s7:=hg7.size
                rw[Bn]at s7
                go_roundw
                case rel=>exact⟨m+1,hlt2,by go_num,by unfold AX;rw[HNT.out,← B0,Af,AS];rw[← HPP.out]at hown7;exact hown7,A8 hB hg6,hg6,J ((((hs4.out.below hb5).below hb6).below (Aa _ _)).grown hg7 (fun g hg e=>(hne4 g hg).1 e.symm)),fun ad h=>⟨fun e=>by
                      rcases hnil7 with h9 | h9
                      · rw[h9]at e;exact (hne4 ad h).1 e
                      · rw[h9]at e;injection e with e;have:=(hne4 ad h).2;simp at e;omega,by have:=(hne4 ad h).2;omega⟩⟩
                case measure=>simp[Ad];omega
            · obtain rfl:m=L.length:=by omega
              rw[Ap]at hown4
              go_wp2
              go_roundw
              case rel=>exact⟨k+1,hlt,by go_num,by rw[HPT.out];exact hown4,hb4,hbW4⟩
              case measure=>simp[Ad];omega
        · have b1:AQ [48,50,50] f=false:=by unfold AQ;rw[← AA];exact t1
          have hti:¬ Ha f=true:=by unfold Ha;rw[b0,b1];simp
          clear b0 b1
          rw[if_neg hti,AD]at hpt
          have HPT:=J hpt
          clear hpt hti hf
          go_wp2
          go_roundw
          case rel=>exact⟨k+1,hlt,by go_num,by rw[HPT.out];exact hown,hb,hbW⟩
          case measure=>simp[Ad];omega
    · obtain rfl:k=fs.length:=by omega
      rw[Ap]at hown
      go_wp2
      go_ret
      exact⟨_,rfl,Cr hown hbB,hb⟩
theorem r20_Terms_14 (fs:List BS) (a:Option Ao) (c:Nat) (id ver kind:Int) (lang:ByteArray) (k:Nat) (h1:1≤k) (h4:k≤4) (w:A9) (h:AV w a c fs) (hM:EI fs) :
  Ac A3 70 #[.agg #[.int .i64 id,.int .i64 ver,.int .i64 kind,.string lang,.slice a fs.length c],.int .i64 k] w fun e w'=>∃ v,e=.returned v∧AX w' w.heap.size v (F7 fs k)∧A6 w.heap.size w w':=by
 rcases (by omega:k=1∨k=2∨k=3∨k=4) with rfl | rfl | rfl | rfl
 ·exact r20_Terms_1 fs a c id ver kind lang w h hM
 ·exact r20_Terms_2 fs a c id ver kind lang w h hM
 ·exact r20_Terms_3 fs a c id ver kind lang w h hM
 ·exact r20_Terms_4 fs a c id ver kind lang w h hM
theorem r20_Terms_0 (fs:List BS) (a:Option Ao) (c:Nat) (id ver kind:Int) (lang:ByteArray) (w:A9) (h:AV w a c fs) (hM:EI fs) :
  Ac A3 70 #[.agg #[.int .i64 id,.int .i64 ver,.int .i64 kind,.string lang,.slice a fs.length c],.int .i64 0] w fun e w'=>∃ v,e=.returned v∧AX w' w.heap.size v (Cw fs 0)∧A6 w.heap.size w w':=by
 obtain⟨W,hW⟩:∃ W,w.alloc (.cells #[.int .i64 id,.int .i64 ver,.int .i64 kind,.string lang,.slice a fs.length c] 51)=W:=⟨_,rfl⟩
 have hB:A6 w.heap.size w W:=by rw[← hW];exact Aa _ _
 have c0:W.cell? ⟨w.heap.size,0,A4⟩=A2 (.int .i64 id):=by rw[← hW];simp
 have c1:W.cell? ⟨w.heap.size,1,A4⟩=A2 (.int .i64 ver):=by rw[← hW];simp
 have c2:W.cell? ⟨w.heap.size,2,A4⟩=A2 (.int .i64 kind):=by rw[← hW];simp
 have c3:W.cell? ⟨w.heap.size,3,A4⟩=A2 (.string lang):=by rw[← hW];simp
 have c4:W.cell? ⟨w.heap.size,4,A4⟩=A2 (.slice a fs.length c):=by rw[← hW];simp
 have HS:=J (h.below hB);clear h
 have hbB:=hB.size
 have CT:Hid (∀ (k:Nat) w',1≤k→k≤4→A6 W.heap.size W w'→Ac A3 70 #[.agg #[.int .i64 id,.int .i64 ver,.int .i64 kind,.string lang,.slice a fs.length c],.int .i64 k] w' fun e w''=>∃ v,e=.returned v∧AX w'' w'.heap.size v (F7 fs k)∧A6 w'.heap.size w' w''):=J (fun k w' h1 h4 hb=>r20_Terms_14 fs a c id ver kind lang k h1 h4 w' (HS.out.below hb) hM)
 have CB:Hid (∀ w',A6 W.heap.size W w'→Ac A3 141 #[.agg #[.int .i64 id,.int .i64 ver,.int .i64 kind,.string lang,.slice a fs.length c],.int .u8 53,.string ⟨#[97]⟩] w' fun e w''=>∃ v,e=.returned v∧AX w'' w'.heap.size v (Cz (Ix.begB 53) [97] fs)∧A6 w'.heap.size w' w''):=J (fun w' hb=>r20_begun_c fs a c id ver kind lang 53 ⟨#[97]⟩ w' (HS.out.below hb) hM (by decide))
 have HM:=J hM;clear hM
 go_enter GV,Gl
 go_wp2
 clear hW
 go_loopw [5,12] (fun v i wr=>∃ (k:Nat),k≤4∧i=.int .i64 (k+1)∧AX wr W.heap.size v (K0 fs k)∧A6 W.heap.size W wr) (fun _ i _=>5 - (Ad i).toNat)
 case atStart=>exact⟨0,Ae _,by go_num,AH _ _ _ _,Ab _ _⟩
 case round =>
  obtain⟨k,hk,rfl,hown,hb⟩:=hrel
  have hbs:=hb.size
  replace c0:=A0 hb c0
  replace c1:=A0 hb c1
  replace c2:=A0 hb c2
  replace c3:=A0 hb c3
  replace c4:=A0 hb c4
  have hl:=Ix.termsTo_len HM.out k
  obtain⟨oa,oc,rfl,hso⟩:=C9 hown
  have HSO:=J hso;clear hso
  by_cases hlt:k<4
  ·have hl2:=Ix.term_len HM.out (k+1)
   have HT:=J (Ix.termsTo_succ fs k)
   have hk1:((k:Int)+1)≤4:=by omega
   have hcast:((k+1:Nat):Int)=(k:Int)+1:=by omega
   have CK:Hid (∀ w',A6 W.heap.size W w'→Ac A3 70 #[.agg #[.int .i64 id,.int .i64 ver,.int .i64 kind,.string lang,.slice a fs.length c],.int .i64 ((k:Int)+1)] w' fun e w''=>∃ v,e=.returned v∧AX w'' w'.heap.size v (F7 fs (k+1))∧A6 w'.heap.size w' w''):=J (fun w' hb=>by
    have h9:=CT.out (k+1) w' (by omega) (by omega) hb
    rw[hcast]at h9
    exact h9)
   clear hcast
   go_wp2_with (first
    |(go_at_call 138;((with_reducible refine (r20_joined_c (K0 fs k) (F7 fs (k+1)) oa va oc vc _ (HSO.out.below hb2) HSV.out (by omega)).mono ?_);rintro e w3 ⟨v3,rfl,hown3,hb3⟩;have s3:=hb3.size))
    |(go_at_call 70;((with_reducible refine (CK.out _ hb).mono ?_);rintro e w2 ⟨v2,rfl,hown2,hb2⟩;obtain⟨va,vc,rfl,hsv⟩:=C9 hown2;have HSV:=J hsv;clear hsv hown2;have s2:=hb2.size)))
   go_roundw
   case rel=>exact⟨k+1,by omega,by go_num,by rw[HT.out];exact Cr hown3 (by omega),A8 (A8 hb hb2) hb3⟩
   case measure=>simp[Ad];omega
  ·obtain rfl:k=4:=by omega
   have hl2:=Ix.pick_len (p:=Ix.begB 53) (codes:=[97]) HM.out
   have HT:=J (Ix.terms_zero fs)
   clear hlt hk
   go_wp2_with (first
    |(go_at_call 138;((with_reducible refine (r20_joined_c (K0 fs 4) (Cz (Ix.begB 53) [97] fs) oa va oc vc _ (HSO.out.below hb2) HSV.out (by omega)).mono ?_);rintro e w3 ⟨v3,rfl,hown3,hb3⟩;have s3:=hb3.size))
    |(go_at_call 141;((with_reducible refine (CB.out _ hb).mono ?_);rintro e w2 ⟨v2,rfl,hown2,hb2⟩;obtain⟨va,vc,rfl,hsv⟩:=C9 hown2;have HSV:=J hsv;clear hsv hown2;have s2:=hb2.size)))
   go_ret
   exact⟨_,rfl,by rw[HT.out];exact Cr hown3 (by omega),A8 (A8 (A8 hB hb) hb2) hb3⟩
theorem r20_Terms_x (fs:List BS) (a:Option Ao) (c:Nat) (id ver kind:Int) (lang:ByteArray) (x:Int) (hx:x<0∨4<x) (w:A9) :
  Ac A3 70 #[.agg #[.int .i64 id,.int .i64 ver,.int .i64 kind,.string lang,.slice a fs.length c],.int .i64 x] w fun e w'=>∃ v,e=.returned v∧AX w' w.heap.size v []∧A6 w.heap.size w w':=by
 obtain⟨W,hW⟩:∃ W,w.alloc (.cells #[.int .i64 id,.int .i64 ver,.int .i64 kind,.string lang,.slice a fs.length c] 51)=W:=⟨_,rfl⟩
 have hB:A6 w.heap.size w W:=by rw[← hW];exact Aa _ _
 have c0:W.cell? ⟨w.heap.size,0,A4⟩=A2 (.int .i64 id):=by rw[← hW];simp
 have c1:W.cell? ⟨w.heap.size,1,A4⟩=A2 (.int .i64 ver):=by rw[← hW];simp
 have c2:W.cell? ⟨w.heap.size,2,A4⟩=A2 (.int .i64 kind):=by rw[← hW];simp
 have c3:W.cell? ⟨w.heap.size,3,A4⟩=A2 (.string lang):=by rw[← hW];simp
 have c4:W.cell? ⟨w.heap.size,4,A4⟩=A2 (.slice a fs.length c):=by rw[← hW];simp
 have t0:(x == 0)=false:=by simp;omega
 have t1:(x == 1)=false:=by simp;omega
 have t2:(x == 2)=false:=by simp;omega
 have t3:(x == 3)=false:=by simp;omega
 have t4:(x == 4)=false:=by simp;omega
 clear hx
 go_enter GV,Gl
 go_wp2
 go_ret
 exact⟨_,rfl,AH _ _ _ _,hB⟩
theorem r20_Terms_c (fs:List BS) (a:Option Ao) (c:Nat) (id ver kind:Int) (lang:ByteArray) (x:Int) (w:A9) (h:AV w a c fs) (hM:EI fs) :
  Ac A3 70 #[.agg #[.int .i64 id,.int .i64 ver,.int .i64 kind,.string lang,.slice a fs.length c],.int .i64 x] w fun e w'=>∃ v,e=.returned v∧AX w' w.heap.size v (Cw fs x)∧A6 w.heap.size w w':=by
 by_cases h0:x=0
 ·subst h0
  exact r20_Terms_0 fs a c id ver kind lang w h hM
 ·unfold Cw
  rw[if_neg h0]
  by_cases h4:1≤x∧x≤4
  ·rw[if_pos h4]
   obtain⟨k,rfl⟩:∃ k:Nat,x=k:=⟨x.toNat,by omega⟩
   exact r20_Terms_14 fs a c id ver kind lang k (by omega) (by omega) w h hM
  ·rw[if_neg h4]
   exact r20_Terms_x fs a c id ver kind lang x (by omega) w
namespace Br
variable {α : Type} {enc : α → List Ah} {size : Nat}
end Br
namespace Ix
open Rc
theorem known_map (T:List PT) (id:Int):known (T.map (·.1)) id=T.any fun t=>t.1.id == id:=by
 unfold known
 rw[List.any_map]
 rfl
theorem RdA.ids {w:A9}{a:Option Ao}{c:Nat}{rs:List Rd} (h:RdA w a c rs) (hne:rs≠[]):∃ b o,a=A2 ⟨b,o,A4⟩∧b<w.heap.size∧∀ (k:Nat) r,rs[k]?=A2 r→w.cell? ⟨b,o+k*5,A4⟩=A2 (.int .i64 r.id):=by
 obtain⟨b,o,h1,h2⟩:=h.at_
 exact⟨b,o,(h1 hne).1,(h1 hne).2,fun k r hk=>(h2 k r hk).1⟩
end Ix
theorem r20_known_c (T:List Cx) (a:Option Ao) (c:Nat) (id:Int) (w:A9) (h:Br.FA Ix.encP 4 w a c T) (hn:T.length≤1000000000000) :
  Ac A3 144 #[.agg #[.slice a T.length c],.int .i64 id] w fun e w'=>e=.returned (.bool (Ix.known (T.map (·.1)) id))∧A6 w.heap.size w w':=by
 have hcap:=h.cap
 obtain⟨W,hW⟩:∃ W,w.alloc (.cells #[.slice a T.length c] 24)=W:=⟨_,rfl⟩
 have hB:A6 w.heap.size w W:=by rw[← hW];exact Aa _ _
 have c0:W.cell? ⟨w.heap.size,0,A4⟩=A2 (.slice a T.length c):=by rw[← hW];simp
 have HS:=J (h.below hB);clear h
 rw[Ix.known_map]
 go_enter Tryz.func144,Tryz.ntmps144
 go_wp2
 clear hW
 go_loop [5] (fun i=>∃ (k:Nat),k≤T.length∧i=.int .i64 k∧Hid ((T.drop k).any (fun t=>t.1.id == id)=T.any (fun t=>t.1.id == id))) (fun i=>T.length - (Ad i).toNat)
 case atStart=>exact⟨0,Ae _,rfl,J rfl⟩
 case round =>
  obtain⟨k,hk,rfl,hE⟩:=hrel
  by_cases hlt:k<T.length
  ·obtain⟨y,hy⟩:∃ y,T[k]?=A2 y:=⟨_,A7 hlt⟩
   have hdr:=hE.out
   rw[Ix.drop_cons hy,Lh]at hdr
   obtain⟨b,o,rfl,hbl,hcs⟩:=HS.out.get hy
   have f0:=hcs 0 _ rfl
   have f1:=hcs 1 _ rfl
   have f2:=hcs 2 _ rfl
   have f3:=hcs 3 _ rfl
   rw[Bs]at f0
   clear hcs
   cases hq:(y.1.id == id) with
   | true =>
    rw[hq,JD]at hdr
    have HN:=J hdr;clear hdr hE hy
    go_wp2
    go_ret
    exact⟨by rw[← HN.out];rfl,hB⟩
   | false =>
    rw[hq,GZ]at hdr
    have HN:=J hdr;clear hdr hE hy
    go_wp2
    go_round
    case rel=>exact⟨k+1,hlt,by go_num,HN⟩
    case measure=>simp[Ad];omega
  ·obtain rfl:k=T.length:=by omega
   have hN:=hE.out
   rw[List.drop_length]at hN
   have HN:=J hN;clear hN hE
   go_wp2
   go_ret
   exact⟨by rw[← HN.out];rfl,hB⟩
theorem r20_met_c (rs:List Rc.Rd) (a:Option Ao) (c:Nat) (i:Nat) (r:Rc.Rd) (w:A9) (h:Rc.RdA w a c rs) (hn:rs.length≤1000000000000) (hr:rs[i]?=A2 r) :
  Ac A3 73 #[.slice a rs.length c,.int .i64 i] w fun e w'=>e=.returned (.bool (Ix.met rs i r))∧A6 w.heap.size w w':=by
 have hcap:=h.cap
 have hil:=(Ai.1 hr).1
 obtain⟨b,o,rfl,hbl,hat⟩:=Ix.RdA.ids h (by intro e;rw[e]at hr;simp at hr)
 have HS:=J hat
 have f0:=hat i r hr
 clear h hat hr
 have hi2:(i:Int)<(rs.length:Int):=by omega
 have hi0:(0:Int)≤(i:Int):=by omega
 go_enter Tryz.func73,Tryz.ntmps73
 go_wp2
 go_loopw [5] (fun v wr=>∃ (k:Nat),k≤i∧v=.int .i64 k∧Hid (((rs.take i).drop k).any (fun q=>q.id == r.id)=Ix.met rs i r)∧A6 w.heap.size w wr) (fun v _=>i - (Ad v).toNat)
 case atStart=>exact⟨0,Ae _,rfl,J rfl,Ab _ _⟩
 case round =>
  obtain⟨k,hk,rfl,hE,hb⟩:=hrel
  replace f0:=A0 hb f0
  by_cases hlt:k<i
  ·obtain⟨q,hq⟩:∃ q,rs[k]?=A2 q:=⟨_,A7 (by omega)⟩
   have hd:=hE.out
   rw[Ix.drop_cons (x:=q) (by rw[List.getElem?_take_of_lt hlt];exact hq),Lh]at hd
   have e0:=A0 hb (HS.out k q hq)
   have hk2:(k:Int)<(rs.length:Int):=by omega
   have hk0:(0:Int)≤(k:Int):=by omega
   cases hc:(q.id == r.id) with
   | true =>
    rw[hc,JD]at hd
    have HN:=J hd;clear hd hE hq
    go_wp2
    go_quiet (fail)
    go_wp2
    go_ret
    exact⟨by rw[← HN.out];rfl,A8 hb (Ba (Ab wr.heap.size wr) nq)⟩
   | false =>
    rw[hc,GZ]at hd
    have HN:=J hd;clear hd hE hq
    go_wp2
    go_quiet (fail)
    go_wp2
    go_roundw
    case rel=>exact⟨k+1,hlt,by go_num,HN,A8 hb (Ba (Ab wr.heap.size wr) nq)⟩
    case measure=>simp[Ad];omega
  ·obtain rfl:k=i:=by omega
   have hN:=hE.out
   rw[List.drop_eq_nil_of_le (by rw[Az];omega)]at hN
   have HN:=J hN;clear hN hE
   go_wp2
   go_ret
   exact⟨by rw[← HN.out];rfl,hb⟩
theorem SLA.agree {w w':A9}{a:Option Ao}{c:Nat}{xs:List ByteArray} (h:SLA w a c xs) (hs:w.heap.size≤w'.heap.size) (hg:xs≠[]→∀ g,a=A2 g→w'.heap[g.block]?=w.heap[g.block]?):SLA w' a c xs:=by
 obtain⟨b,o,h1,h2⟩:=h.at_
 refine⟨h.cap,h.max,b,o,fun hn=>⟨(h1 hn).1,Nat.lt_of_lt_of_le (h1 hn).2 hs⟩,fun j x hx=>?_⟩
 have hne:xs≠[]:=by intro e;subst e;simp at hx
 have hb:=hg hne ⟨b,o,A4⟩ (h1 hne).1
 exact (World.cell?_of_block (a:=⟨b,o+j,A4⟩) hb).trans (h2 j x hx)
theorem SLA.set {w:A9}{a:Option Ao}{c:Nat}{xs:List ByteArray} (h:SLA w a c xs) {X:Nat} (hX:xs≠[]→∀ g,a=A2 g→g.block≠X) (i:Nat) (v:Ah):SLA (w.setCell ⟨X,i,A4⟩ v) a c xs :=
 h.agree (by rw[Br.size_set];exact An _) (fun hn g hg=>Ea w ⟨X,i,A4⟩ v g.block (hX hn g hg))
namespace Ix
open Rc
theorem PsA.far {w:A9}{a:Option Ao}{c:Nat}{T:List PT} (h:PsA w a c T) {Y:Nat} (hY:w.heap.size≤Y):Far T a Y :=
 ⟨fun hn g hg=>by have:=h.fa.lt hn g hg;omega,fun t ht hn g hg=>by have:=(h.ats t ht).lt hn g hg;omega⟩
structure AddS (w:A9) (T:List PT) (a:Option Ao) (rec:Array Ah) (wr:A9) (T':List PT) (a':Option Ao) (c':Nat):Prop where
 hb:A6 w.heap.size w wr
 kx:wr.heap[w.heap.size]?=A2 (.cells #[.slice a' T'.length c'] 24 (0,0))
 kr:wr.heap[w.heap.size+1]?=A2 (.cells rec 51 (0,0))
 k4:wr.heap[w.heap.size+1+1]?=A2 (.cells #[.slice A4 0 0] 24 (0,0))
 ps:PsA wr a' c' T'
 far:∀ Y,Y<w.heap.size+3→(Y<w.heap.size→Far T a Y)→Far T' a' Y
theorem AddS.below {w wr w':A9}{T T':List PT}{a a':Option Ao}{c':Nat}{rec:Array Ah} (h:AddS w T a rec wr T' a' c') (hb:A6 wr.heap.size wr w'):AddS w T a rec w' T' a' c' :=
 ⟨A8 h.hb hb,Aj h.kx hb,Aj h.kr hb,Aj h.k4 hb,h.ps.below hb,h.far⟩
theorem AddS.size {w wr:A9}{T T':List PT}{a a':Option Ao}{c':Nat}{rec:Array Ah} (h:AddS w T a rec wr T' a' c'):w.heap.size+2<wr.heap.size:=(AN.1 h.k4).1
theorem AddS.put {w wr w':A9}{T T':List PT}{a a' va:Option Ao}{c' vc B:Nat}{rec:Array Ah}{t:PT} (h:AddS w T a rec wr T' a' c') (hb:A6 wr.heap.size wr w')
  (hB:w.heap.size+3≤B) (hown:PsA w' va vc (insT T' t)) (hva:∀ g,va=A2 g→B≤g.block) (ht:∀ g,t.2.1=A2 g→w.heap.size+3≤g.block):AddS w T a rec (w'.setCell ⟨w.heap.size,0,A4⟩ (.slice va (insT T' t).length vc)) (insT T' t) va vc:=by
 have h':=h.below hb
 have hfar:∀ Y,Y<w.heap.size+3→(Y<w.heap.size→Far T a Y)→Far (insT T' t) va Y:=fun Y hY hh=>by
  refine⟨fun _ g hg=>by have:=hva g hg;omega,fun x hx hn g hg=>?_⟩
  rcases insT_mem hx with e | hx
  ·subst e;have:=ht g hg;omega
  ·exact (h.far Y hY hh).2 x hx hn g hg
 have hs:∀ k,k≠w.heap.size→(w'.setCell ⟨w.heap.size,0,A4⟩ (.slice va (insT T' t).length vc)).heap[k]?=w'.heap[k]?:=fun k hk=>Ea w' ⟨w.heap.size,0,A4⟩ _ k hk
 refine⟨h'.hb.setCell (by simp) _,?_,(hs _ (by omega)).trans h'.kr,(hs _ (by omega)).trans h'.k4,?_,hfar⟩
 ·have:=h'.kx
  simp[CO,EE,this]
 ·exact hown.set (hfar _ (by omega) (fun h9=>absurd h9 (Nat.lt_irrefl _))) 0 _
theorem Ats.ins {w:A9}{T:List PT}{t:PT} (h:Ats w T) (ht:IA w t.2.1 t.2.2 t.1.at_):Ats w (insT T t):=fun x hx=>by
 rcases insT_mem hx with e | hx
 ·rw[e];exact ht
 ·exact h x hx
theorem fold_snoc (x ps:List Post) (p:Post):(ps++[p]).foldl ins x=ins (ps.foldl ins x) p:=by
 rw[List.foldl_append]
 rfl
end Ix
theorem r20_Add_c (T:List Cx) (a:Option Ao) (c:Nat) (r:Rc.Rd) (ra:Option Ao) (rc:Nat) (w:A9) (h:Zq w a c T) (hn:T.length≤5000000000) (hr:AV w ra rc r.fields) (hM:EI r.fields) :
  Ac A3 74 #[.agg #[.slice a T.length c],.agg #[.int .i64 r.id,.int .i64 r.ver,.int .i64 r.kind,.string r.lang,.slice ra r.fields.length rc]] w fun e w'=>(∃ a' c' T',e=.returned (.agg #[.slice a' (Cd T') c'])∧Zq w' a' c' T'∧T'.map (·.1)=Ix.add (T.map (·.1)) r∧T'.length≤T.length+50000000∧(∀ Y,Y<w.heap.size→Ix.Far T a Y→Ix.Far T' a' Y)∧A6 w.heap.size w w'):=by
 obtain⟨i0,hi0,hz0,hz1,hz2⟩:=BR info_int
 have HI:=J hi0;clear hi0
 obtain⟨W,hW⟩:∃ W,((w.alloc (.cells #[.slice a T.length c] 24)).alloc (.cells #[.int .i64 r.id,.int .i64 r.ver,.int .i64 r.kind,.string r.lang,.slice ra r.fields.length rc] 51)).alloc (.cells #[.slice A4 0 0] 24)=W:=⟨_,rfl⟩
 have hB:A6 w.heap.size w W:=by rw[← hW];exact ((Aa _ _).alloc (by simp) _).alloc (by simp;omega) _
 have hsW:W.heap.size=w.heap.size+3:=by rw[← hW];simp
 have hS:Ix.AddS w T a #[.int .i64 r.id,.int .i64 r.ver,.int .i64 r.kind,.string r.lang,.slice ra r.fields.length rc] W T a c:=by
  refine⟨hB,?_,?_,?_,h.below hB,fun Y hY hh=>?_⟩
  ·rw[← hW];exact (hp_alloc_lt (by simp;omega) _).trans ((hp_alloc_lt (by simp) _).trans (Ar w _))
  ·rw[← hW];exact (hp_alloc_lt (by simp) _).trans (by simpa using Ar (w.alloc (.cells #[.slice a T.length c] 24)) (.cells #[.int .i64 r.id,.int .i64 r.ver,.int .i64 r.kind,.string r.lang,.slice ra r.fields.length rc] 51))
  ·rw[← hW];simpa using Ar ((w.alloc (.cells #[.slice a T.length c] 24)).alloc (.cells #[.int .i64 r.id,.int .i64 r.ver,.int .i64 r.kind,.string r.lang,.slice ra r.fields.length rc] 51)) (.cells #[.slice A4 0 0] 24)
  ·rcases Nat.lt_or_ge Y w.heap.size with h1 | h1
   ·exact hh h1
   ·exact h.far h1
 obtain⟨x0,hx0⟩:∃ x0,T.map (·.1)=x0:=⟨_,rfl⟩
 have HX:=J hx0
 rw[hx0]
 clear hx0
 have c0:W.cell? ⟨w.heap.size,0,A4⟩=A2 (.slice a T.length c):=(Aq hS.kx).1 0
 have c4:W.cell? ⟨w.heap.size+1,0,A4⟩=A2 (.int .i64 r.id):=(Aq hS.kr).1 0
 obtain⟨kc,kf,kl⟩:=Aq hS.k4
 by_cases hid:r.id<1
 ·have HA:Hid (Ix.add x0 r=x0):=J (by unfold Ix.add;rw[if_pos (.inl hid)])
  have hd:decide (r.id<1)=true:=by simpa using hid
  clear hid
  go_enter Tryz.func74,Tryz.ntmps74
  go_wp2
  refine DF (v:=.agg #[.slice a T.length c]) (by simp[results,Tryz.results74,go_sem,kc]) rfl ⟨a,c,T,rfl,?_,by rw[HA.out,HX.out],by omega,fun Y _ hf=>hf,?_⟩
  ·exact hS.ps.set (h.far (by omega)) _ _
  ·exact hB.setCell (by simp;omega) _
 cases hkn:Ix.known x0 r.id with
 | true =>
  have HA:Hid (Ix.add x0 r=x0):=J (by unfold Ix.add;rw[if_pos (.inr hkn)])
  have HK:=J hkn;clear hkn
  have hd:decide (r.id<1)=false:=by simpa using hid
  have hid2:1≤r.id:=by omega
  clear hid
  have CK:Hid (∀ w',A6 W.heap.size W w'→Ac A3 144 #[.agg #[.slice a T.length c],.int .i64 r.id] w' fun e w''=>e=.returned (.bool true)∧A6 w'.heap.size w' w''):=J (fun w' hb=>by
   have h9:=r20_known_c T a c r.id w' (hS.below hb).ps.fa (by omega)
   rw[HX.out,HK.out]at h9
   exact h9)
  go_enter Tryz.func74,Tryz.ntmps74
  go_wp2_with (go_at_call 144;((with_reducible refine (CK.out _ (Ab _ _)).mono ?_);rintro e w1 ⟨rfl,hb1⟩;have hS1:=hS.below hb1;have d0:=A0 hb1 c0;have d4:=A0 hb1 c4;obtain⟨kc,kf,kl⟩:=Aq hS1.k4))
  refine DF (v:=.agg #[.slice a T.length c]) (by simp[results,Tryz.results74,go_sem,kc]) rfl ⟨a,c,T,rfl,?_,by rw[HA.out,HX.out],by omega,fun Y _ hf=>hf,?_⟩
  ·exact hS1.ps.set (h.far (by omega)) _ _
  ·exact hS1.hb.setCell (by simp;omega) _
 | false =>
  have HA:Hid (Ix.add x0 r=(Fc r 5).foldl Ix.ins x0):=J (by unfold Ix.add;rw[if_neg (by rintro (h | h);omega;rw[hkn]at h;cases h),Ix.posts_to])
  have HK:=J hkn;clear hkn
  have hd:decide (r.id<1)=false:=by simpa using hid
  have hid2:1≤r.id:=by omega
  clear hid
  have CK:Hid (∀ w',A6 W.heap.size W w'→Ac A3 144 #[.agg #[.slice a T.length c],.int .i64 r.id] w' fun e w''=>e=.returned (.bool false)∧A6 w'.heap.size w' w''):=J (fun w' hb=>by
   have h9:=r20_known_c T a c r.id w' (hS.below hb).ps.fa (by omega)
   rw[HX.out,HK.out]at h9
   exact h9)
  go_enter Tryz.func74,Tryz.ntmps74
  go_wp2_with (go_at_call 144;((with_reducible refine (CK.out _ (Ab _ _)).mono ?_);rintro e w1 ⟨rfl,hb1⟩;have hS1:=hS.below hb1;have d0:=A0 hb1 c0;have d4:=A0 hb1 c4;obtain⟨kc,kf,kl⟩:=Aq hS1.k4))
  clear hW
  go_loopw [5] (fun f wr=>∃ (k:Nat) (T':List Cx) (a':Option Ao) (c':Nat),k≤5∧f=.int .i64 k∧Ix.AddS w T a #[.int .i64 r.id,.int .i64 r.ver,.int .i64 r.kind,.string r.lang,.slice ra r.fields.length rc] wr T' a' c'∧Hid (T'.map (·.1)=(Fc r k).foldl Ix.ins x0)∧T'.length≤T.length+10000000*k) (fun f _=>5 - (Ad f).toNat)
  case atStart=>exact⟨0,T,a,c,by omega,by go_num,hS1,HX,by omega⟩
  case round =>
   obtain⟨k,T',a',c',hk,rfl,hS',hE,hTl⟩:=hrel
   have hss:=hS'.size
   have e0:wr.cell? ⟨w.heap.size+1,0,A4⟩=A2 (.int .i64 r.id):=(Aq hS'.kr).1 0
   have e1:wr.cell? ⟨w.heap.size+1,1,A4⟩=A2 (.int .i64 r.ver):=(Aq hS'.kr).1 1
   have e2:wr.cell? ⟨w.heap.size+1,2,A4⟩=A2 (.int .i64 r.kind):=(Aq hS'.kr).1 2
   have e3:wr.cell? ⟨w.heap.size+1,3,A4⟩=A2 (.string r.lang):=(Aq hS'.kr).1 3
   have e4:wr.cell? ⟨w.heap.size+1,4,A4⟩=A2 (.slice ra r.fields.length rc):=(Aq hS'.kr).1 4
   by_cases hlt:k<5
   ·obtain⟨ts,hts⟩:∃ ts,Cw r.fields (k:Int)=ts:=⟨_,rfl⟩
    have htl:=Ix.terms_len hM (k:Int)
    rw[hts]at htl
    have hk4:(k:Int)≤4:=by omega
    have hpt:Fc r (k+1)=Fc r k++(Fo ts).map (Nx k r.id ts):=by rw[Fc,hts];rfl
    have HPT:=J hpt;clear hpt
    have CT:Hid (Ac A3 70 #[.agg #[.int .i64 r.id,.int .i64 r.ver,.int .i64 r.kind,.string r.lang,.slice ra r.fields.length rc],.int .i64 (k:Int)] wr fun e w'=>∃ v,e=.returned v∧AX w' wr.heap.size v ts∧A6 wr.heap.size wr w'):=J (by
     have h9:=r20_Terms_c r.fields ra rc r.id r.ver r.kind r.lang (k:Int) wr (hr.below hS'.hb) hM
     rw[hts]at h9
     exact h9)
    have HTS:=J hts;clear hts
    go_wp2_with (go_at_call 70;((with_reducible refine CT.out.mono ?_);rintro e w2 ⟨v2,rfl,hown2,hb2⟩;obtain⟨ta,tc,rfl,hs2⟩:=C9 hown2;have HS2:=J hs2;have hta:∀ g,ta=A2 g→w.heap.size+3≤g.block:=(fun g hg=>by subst hg;have:=(hown2.lt _ rfl).1;omega);clear hs2 hown2))
    have htcap:=HS2.out.cap
    rw[At]at htcap
    have hS2:=hS'.below hb2
    clear e0 e1 e2 e3 e4 CT
    go_loopw [7] (fun i wr=>∃ (j:Nat) (T2:List Cx) (a2:Option Ao) (c2:Nat),j≤ts.length∧i=.int .i64 j∧Ix.AddS w T a #[.int .i64 r.id,.int .i64 r.ver,.int .i64 r.kind,.string r.lang,.slice ra r.fields.length rc] wr T2 a2 c2∧Hid (T2.map (·.1)=(Fc r k++(Fo (ts.take j)).map (Nx k r.id ts)).foldl Ix.ins x0)∧T2.length≤T.length+10000000*k+j∧Hid (SLA wr ta tc (ts.map fun x=>(⟨x.toArray⟩:ByteArray)))) (fun i _=>ts.length - (Ad i).toNat)
    case atStart=>exact⟨0,T',a',c',by omega,by go_num,hS2,J (by rw[Bt];show _=(Fc r k++[]).foldl Ix.ins x0;rw[AD];exact hE.out),by omega,HS2⟩
    case round =>
     obtain⟨j,T2,a2,c2,hj,rfl,hS3,hE3,hTl3,hSL⟩:=hrel
     obtain⟨wm,hwm⟩:∃ wm,wm=wr:=⟨_,rfl⟩
     subst hwm
     have hms:=hS3.size
     by_cases hlt2:j<ts.length
     ·obtain⟨x,hx⟩:∃ x,ts[j]?=A2 x:=⟨_,A7 hlt2⟩
      obtain⟨tb,to_,rfl,htb,hat⟩:=hSL.out.row (by intro e;rw[List.map_eq_nil_iff]at e;rw[e]at hlt2;simp at hlt2)
      have HAT:=J hat
      have fj:wm.cell? ⟨tb,to_+j,A4⟩=A2 (.string ⟨x.toArray⟩):=hat j _ (by rw[AE,hx];rfl)
      have hjn:(j:Int)<(ts.length:Int):=by omega
      have hj0:(0:Int)≤(j:Int):=by omega
      have hbm:=Ab wm.heap.size wm
      clear hat
      have HXJ:=J hx;clear hx
      go_wp2
      go_loopw [8,9] (fun v i wr=>∃ (m:Nat),m≤ts.length∧i=.int .i64 m∧wr.ownsRow wm.heap.size 3 1 v (Ix.places (ts.take m) x).length ((Ix.places (ts.take m) x).map (Value.int .i64))∧A6 wm.heap.size wm wr) (fun _ i _=>ts.length - (Ad i).toNat)
      case atStart=>exact⟨0,Ae _,rfl,AH _ _ _ _,Ab _ _⟩
      case round =>
       obtain⟨m,hm,rfl,hown,hb⟩:=hrel
       have hbs:=hb.size
       replace fj:=A0 hb fj
       by_cases hlt3:m<ts.length
       ·obtain⟨y,hy⟩:∃ y,ts[m]?=A2 y:=⟨_,A7 hlt3⟩
        have fm:wr.cell? ⟨tb,to_+m,A4⟩=A2 (.string ⟨y.toArray⟩):=A0 hb (HAT.out m _ (by rw[AE,hy];rfl))
        have hmn:(m:Int)<(ts.length:Int):=by omega
        have hm0:(0:Int)≤(m:Int):=by omega
        have hpl:=Ix.places_take x hy
        have hll:=Ix.places_len (ts.take m) x
        rw[Az]at hll
        obtain⟨P,hP⟩:∃ P,Ix.places (ts.take m) x=P:=⟨_,rfl⟩
        rw[hP]at hown hpl hll
        have HK:Hid (P.length≤10000000):=J (by omega)
        clear hP hll hy
        cases hq:(y == x) with
        | true =>
         rw[if_pos (by simpa using hq)]at hpl
         have HPL:=J hpl;clear hpl
         go_wp2
         go_quiet (fail)
         have hbq:=Ba (Ab wr.heap.size wr) nq
         have hown3:=own_below hown hbq
         have hb3:=A8 hb hbq
         have hb3s:=hb3.size
         clear hbq
         generalize wr.drewN nq=w3 at *
         go_wp2_with (at_builtin;go_must (refine wpList_append_sl rfl _ _ 35 rfl wm.heap.size 3 i0 _ 1 8 Tryz.underlying35 HI.out hz0 hz1 hz2 rfl (by decide) _ (P.length) _ rfl (hown3.alloc _) (A2 ⟨_,0,A4⟩) 1 1 [.int .i64 (m:Int)] rfl rfl (fun h9=>by cases h9) (fun ad had=>by cases had;exact AR _ _ (by first | rfl | simp) _ _) (by simp[AT]) (by unfold maxLen;have:=HK.out;omega) (by have:=HK.out;omega) (by simp;omega) ?_);intro v7 w7 hown7 hg7 hnil7)
         go_roundw
         case rel=>exact⟨m+1,hlt3,by go_num,by rw[HPL.out,Af,AS];exact hown7,(hb3.alloc hb3s _).grown hg7 (by simp;omega) (fun j hj=>(hown3.lt j hj).1)⟩
         case measure=>simp[Ad];omega
        | false =>
         rw[if_neg (by simpa using hq),AD]at hpl
         have HPL:=J hpl;clear hpl
         go_wp2
         go_quiet (fail)
         have hbq:=Ba (Ab wr.heap.size wr) nq
         have hown3:=own_below hown hbq
         have hb3:=A8 hb hbq
         clear hbq
         generalize wr.drewN nq=w3 at *
         go_wp2
         go_roundw
         case rel=>exact⟨m+1,hlt3,by go_num,by rw[HPL.out];exact hown3,hb3⟩
         case measure=>simp[Ad];omega
       ·obtain rfl:m=ts.length:=by omega
        rw[Ap]at hown
        obtain⟨n0,r0,hph,hiff⟩:=Ix.places_head HXJ.out
        have hft:=Ix.firsts_take HXJ.out
        obtain⟨PL,hPL⟩:∃ P,Ix.places ts x=P:=⟨_,rfl⟩
        have hmk:Nx (k:Int) r.id ts x=⟨(k:Int),x,r.id,PL⟩:=by unfold Nx;rw[hPL]
        rw[hPL]at hown hph
        have HMK:=J hmk
        clear hmk hPL
        obtain⟨aa,ac,rfl,hIA,haa⟩:=Ix.IA.of_own hown rfl
        have hl0:0<PL.length:=by rw[hph];simp
        obtain⟨ab,ao,rfl,hab,g0⟩:=Ix.IA.cell hIA (k:=0) (x:=n0) (by rw[hph];rfl)
        rw[Bs]at g0
        have hS4:=hS3.below hb
        have HIA:=J hIA
        have habs:=haa _ rfl
        clear hIA hown hph
        by_cases hmem:x∈ts.take j
        ·rw[if_pos hmem,AD]at hft
         have hq0:(n0 == (j:Int))=false:=by rw[beq_eq_false_iff_ne];exact fun e=>hiff.1 e hmem
         have HFT:=J hft;clear hft hiff hmem haa
         go_wp2
         go_roundw
         case rel=>exact⟨j+1,T2,a2,c2,hlt2,by go_num,hS4,J (by rw[HFT.out];exact hE3.out),by omega,J (hSL.out.below hb)⟩
         case measure=>simp[Ad];omega
        ·rw[if_neg hmem]at hft
         have hq0:(n0 == (j:Int))=true:=by rw[beq_iff_eq];exact hiff.2 hmem
         have HFT:=J hft;clear hft hiff hmem haa
         have x0c:=(Aq hS4.kx).1 0
         have r0c:wr.cell? ⟨w.heap.size+1,0,A4⟩=A2 (.int .i64 r.id):=(Aq hS4.kr).1 0
         have CP:Hid (∀ w',A6 wr.heap.size wr w'→Ac A3 145 #[.slice a2 T2.length c2,.agg #[.int .i64 (k:Int),.string ⟨x.toArray⟩,.int .i64 r.id,.slice (A2 ⟨ab,ao,A4⟩) PL.length ac]] w' fun e w''=>∃ v,e=.returned v∧Ix.OwnP w'' w'.heap.size v (Hy T2 ((⟨(k:Int),x,r.id,PL⟩:EP),A2 ⟨ab,ao,A4⟩,ac))∧A6 w'.heap.size w' w''):=J (fun w' hb'=>r20_put_c T2 ((⟨(k:Int),x,r.id,PL⟩:EP),A2 ⟨ab,ao,A4⟩,ac) a2 c2 w' (hS4.below hb').ps.fa (by omega))
         go_wp2
         go_still_tail 11,(by kernel_rfl)
         change wpList _ _ _ _ _ wr.drew
         have hbq:=(Ab wr.heap.size wr).drew
         generalize wr.drew=wq at hbq ⊢
         have xq:=Aq (hS4.below hbq).kx
         go_wp2_with (go_at_call 145;((with_reducible refine (CP.out _ hbq).mono ?_);rintro e w5 ⟨v5,rfl,hown5,hb5x⟩;have hb5:=A8 hbq hb5x;have hS5:=hS4.below hb5;have hAT:Ix.Ats w5 (Hy T2 ((⟨(k:Int),x,r.id,PL⟩:EP),A2 ⟨ab,ao,A4⟩,ac)):=Ix.Ats.ins hS5.ps.ats (HIA.out.below hb5);obtain⟨va,vc,rfl,hps5,hva5⟩:=Ix.OwnP.ps hown5 hAT;obtain⟨xc,xf,xl⟩:=Aq hS5.kx))
         have hq9:=hbq.size
         have HSL:Hid (SLA (w5.setCell ⟨w.heap.size,0,A4⟩ (.slice va (Hy T2 ((⟨(k:Int),x,r.id,PL⟩:EP),A2 ⟨ab,ao,A4⟩,ac)).length vc)) (A2 ⟨tb,to_,A4⟩) tc (ts.map fun x=>(⟨x.toArray⟩:ByteArray))):=J (((hSL.out.below hb).below hb5).set (fun _ g hg=>by have:=hta g hg;omega) _ _)
         have HE9:Hid ((Hy T2 ((⟨(k:Int),x,r.id,PL⟩:EP),A2 ⟨ab,ao,A4⟩,ac)).map (·.1)=(Fc r k++(Fo (ts.take (j+1))).map (Nx k r.id ts)).foldl Ix.ins x0):=J (by
          rw[Ix.insT_map,HFT.out,AS,← B0]
          show _=(_++[Nx k r.id ts x]).foldl Ix.ins x0
          rw[Ix.fold_snoc,HMK.out,hE3.out])
         have hl9:(Hy T2 ((⟨(k:Int),x,r.id,PL⟩:EP),A2 ⟨ab,ao,A4⟩,ac)).length≤T.length+10000000*k+(j+1):=by rw[Ix.insT_len];omega
         have hS9:=hS4.put (B:=wq.heap.size) hb5 (by omega) hps5 hva5 (fun g hg=>by injection hg with hg;subst hg;show w.heap.size+3≤ab;omega)
         go_roundw
         case rel=>exact⟨j+1,_,va,vc,hlt2,by go_num,hS9,HE9,hl9,HSL⟩
         case measure=>simp[Ad];omega
     ·obtain rfl:j=ts.length:=by omega
      have hN:=hE3.out
      rw[Ap,← HPT.out]at hN
      have HN:=J hN;clear hN hE3
      go_wp2
      go_roundw
      case rel=>exact⟨k+1,T2,a2,c2,hlt,by go_num,hS3,HN,by omega⟩
      case measure=>simp[Ad];omega
   ·obtain rfl:k=5:=by omega
    have hN:=hE.out
    rw[← HA.out]at hN
    have HN:=J hN;clear hN hE
    obtain⟨xc,xf,xl⟩:=Aq hS'.kx
    obtain⟨kc,kf,kl⟩:=Aq hS'.k4
    go_wp2
    refine DF (v:=.agg #[.slice a' T'.length c']) (by simp[results,Tryz.results74,go_sem,kc]) rfl ⟨a',c',T',rfl,?_,HN.out,by omega,fun Y hY hf=>hS'.far Y (by omega) (fun _=>hf),?_⟩
    ·exact hS'.ps.set (hS'.far _ (by omega) (fun h9=>absurd h9 (by omega))) _ _
    ·exact hS'.hb.setCell (by simp;omega) _
namespace Ix
open Rc
structure BldS (w wr:A9) (T':List PT) (a':Option Ao) (c':Nat):Prop where
 hb:A6 w.heap.size w wr
 k0:wr.heap[w.heap.size]?=A2 (.cells #[.slice A4 0 0] 24 (0,0))
 kx:wr.heap[w.heap.size+1]?=A2 (.cells #[.slice a' T'.length c'] 24 (0,0))
 ps:PsA wr a' c' T'
 far0:Far T' a' w.heap.size
 far1:Far T' a' (w.heap.size+1)
theorem BldS.below {w wr w':A9}{T':List PT}{a':Option Ao}{c':Nat} (h:BldS w wr T' a' c') (hb:A6 wr.heap.size wr w'):BldS w w' T' a' c' :=
 ⟨A8 h.hb hb,Aj h.k0 hb,Aj h.kx hb,h.ps.below hb,h.far0,h.far1⟩
theorem BldS.size {w wr:A9}{T':List PT}{a':Option Ao}{c':Nat} (h:BldS w wr T' a' c'):w.heap.size+1<wr.heap.size:=(AN.1 h.kx).1
theorem BldS.put {w wr w':A9}{T' T2:List PT}{a' a2:Option Ao}{c' c2:Nat} (h:BldS w wr T' a' c') (hb:A6 wr.heap.size wr w') (hp:PsA w' a2 c2 T2) (hf:∀ Y,Y<wr.heap.size→Far T' a' Y→Far T2 a2 Y) :
  BldS w (w'.setCell ⟨w.heap.size+1,0,A4⟩ (.slice a2 T2.length c2)) T2 a2 c2:=by
 have h':=h.below hb
 have hs:=h.size
 have hs0:∀ k,k≠w.heap.size+1→(w'.setCell ⟨w.heap.size+1,0,A4⟩ (.slice a2 T2.length c2)).heap[k]?=w'.heap[k]?:=fun k hk=>Ea w' ⟨w.heap.size+1,0,A4⟩ _ k hk
 refine⟨h'.hb.setCell (by simp) _,(hs0 _ (by omega)).trans h'.k0,?_,?_,hf _ (by omega) h.far0,hf _ (by omega) h.far1⟩
 ·have:=h'.kx
  simp[CO,EE,this]
 ·exact hp.set (hf _ (by omega) h.far1) 0 _
end Ix
theorem r20_Build_c (rs:List Rc.Rd) (a:Option Ao) (c:Nat) (w:A9) (h:Rc.RdA w a c rs) (hn:rs.length≤50) (hM:∀ r∈rs,EI r.fields) :
  Ac A3 27 #[.slice a rs.length c] w fun e w'=>(∃ a' c' T',e=.returned (.agg #[.slice a' (Cd T') c'])∧Zq w' a' c' T'∧T'.map (·.1)=Ix.build rs∧T'.length≤2500000000∧A6 w.heap.size w w'):=by
 have hcap:=h.cap
 obtain⟨W,hW⟩:∃ W,(w.alloc (.cells #[.slice A4 0 0] 24)).alloc (.cells #[.slice A4 0 0] 24)=W:=⟨_,rfl⟩
 have hB:A6 w.heap.size w W:=by rw[← hW];exact (Aa _ _).alloc (by simp) _
 have hK0:W.heap[w.heap.size]?=A2 (.cells #[.slice A4 0 0] 24 (0,0)):=by rw[← hW];exact (hp_alloc_lt (by simp) _).trans (Ar w _)
 have hK1:W.heap[w.heap.size+1]?=A2 (.cells #[.slice A4 0 0] 24 (0,0)):=by rw[← hW];simpa using Ar (w.alloc (.cells #[.slice A4 0 0] 24)) (.cells #[.slice A4 0 0] 24)
 have hP0:∀ w',Zq w' A4 0 []:=fun w'=>⟨⟨An _,by simp,0,0,fun h9=>absurd rfl h9,fun j i x u hx=>by simp at hx⟩,fun t ht=>by cases ht⟩
 have hfar:∀ Y,Ix.Far [] A4 Y:=fun Y=>⟨fun h9=>absurd rfl h9,fun t ht=>by cases ht⟩
 have hS:Ix.BldS w (W.setCell ⟨w.heap.size+1,0,A4⟩ (.slice A4 0 0)) [] A4 0:=(Ix.BldS.mk (T':=[]) hB hK0 hK1 (hP0 _) (hfar _) (hfar _)).put (Ab _ _) (hP0 _) (fun Y _ _=>hfar Y)
 obtain⟨xc,xf,xl⟩:=Aq hK1
 clear hP0 hfar
 go_enter Tryz.func27,Tryz.ntmps27
 go_wp2
 clear hW hK0 hK1 xc xf xl hB
 go_loopw [4] (fun i wr=>∃ (k:Nat) (T':List Cx) (a':Option Ao) (c':Nat),k≤rs.length∧i=.int .i64 k∧Ix.BldS w wr T' a' c'∧Hid (T'.map (·.1)=Ix.bld rs k)∧T'.length≤50000000*k) (fun i _=>rs.length - (Ad i).toNat)
 case atStart=>exact⟨0,[],A4,0,Ae _,rfl,hS,J rfl,Ae _⟩
 case round =>
  obtain⟨k,T',a',c',hk,rfl,hS',hE,hTl⟩:=hrel
  have hss:=hS'.size
  obtain⟨xc,xf,xl⟩:=Aq hS'.kx
  obtain⟨kc,kf,kl⟩:=Aq hS'.k0
  by_cases hlt:k<rs.length
  ·obtain⟨r,hr⟩:∃ r,rs[k]?=A2 r:=⟨_,A7 hlt⟩
   have hbs:=Ix.bld_succ hr
   have HMr:=J (hM r (Ag hr))
   have hR:=h.below hS'.hb
   have CM:Hid (∀ v,Ix.met rs k r=v→Ac A3 73 #[.slice a rs.length c,.int .i64 (k:Int)] wr fun e w''=>e=.returned (.bool v)∧A6 wr.heap.size wr w''):=J (fun v hv=>by rw[← hv];exact r20_met_c rs a c k r wr hR (by omega) hr)
   obtain⟨b,o,fa,fc,rfl,hbl,d0,d1,d2,d3,d4,hF⟩:=h.get hr
   have HF:=J (hF.below hS'.hb)
   replace d0:=A0 hS'.hb d0
   replace d1:=A0 hS'.hb d1
   replace d2:=A0 hS'.hb d2
   replace d3:=A0 hS'.hb d3
   replace d4:=A0 hS'.hb d4
   clear hF hR hr
   have hk0:(0:Int)≤(k:Int):=by omega
   have hkn:(k:Int)<(rs.length:Int):=by omega
   cases hm:Ix.met rs k r with
   | true =>
    rw[if_pos hm]at hbs
    have HN:Hid (T'.map (·.1)=Ix.bld rs (k+1)):=J (hE.out.trans hbs.symm)
    have HMT:=J hm
    clear hbs hm hE
    go_wp2_with (go_at_call 73;((with_reducible refine (CM.out true HMT.out).mono ?_);rintro e w2 ⟨rfl,hb2⟩))
    have hl9:T'.length≤50000000*(k+1):=AK hTl (Nat.mul_le_mul_left _ (Nat.le_succ k))
    go_roundw
    case rel=>exact⟨k+1,T',a',c',hlt,by go_num,hS'.below hb2,HN,hl9⟩
    case measure=>simp[Ad];omega
   | false =>
    rw[if_neg (by rw[hm];decide)]at hbs
    have HMT:=J hm
    have HBS:=J hbs
    clear hbs hm
    go_wp2_with (go_at_call 73;((with_reducible refine (CM.out false HMT.out).mono ?_);rintro e w2 ⟨rfl,hb2⟩;have hS2:=hS'.below hb2;obtain⟨yc,yf,yl⟩:=Aq hS2.kx;have e0:=A0 hb2 d0;have e1:=A0 hb2 d1;have e2:=A0 hb2 d2;have e3:=A0 hb2 d3;have e4:=A0 hb2 d4))
    go_still_tail 5,(by kernel_rfl)
    change wpList _ _ _ _ _ w2.drew
    have hbq:=(Ab w2.heap.size w2).drew
    generalize w2.drew=wq at hbq ⊢
    have hS3:=hS2.below hbq
    have hq9:=hbq.size
    go_wp2_with (go_at_call 74;((with_reducible refine (r20_Add_c T' a' c' r fa fc _ hS3.ps (by omega) (HF.out.below (A8 hb2 hbq)) HMr.out).mono ?_);rintro e w5 ⟨a2,c2,T2,rfl,hps2,hmap2,hl2,hfar2,hb5⟩;have HMAP:=J hmap2;have hS5:=hS3.below hb5;obtain⟨zc,zf,zl⟩:=Aq hS5.kx;clear hmap2))
    have HN:Hid (T2.map (·.1)=Ix.bld rs (k+1)):=J (by rw[HMAP.out,HBS.out,hE.out])
    have hS9:=hS3.put hb5 hps2 hfar2
    have hl9:T2.length≤50000000*(k+1):=by omega
    go_roundw
    case rel=>exact⟨k+1,T2,a2,c2,hlt,by go_num,hS9,HN,hl9⟩
    case measure=>simp[Ad];omega
  ·obtain rfl:k=rs.length:=by omega
   go_wp2
   refine DF (v:=.agg #[.slice a' T'.length c']) (by simp[results,Tryz.results27,go_sem,kc]) rfl ⟨a',c',T',rfl,?_,hE.out,by omega,?_⟩
   ·exact hS'.ps.set hS'.far0 _ _
   ·exact hS'.hb.setCell (by simp) _
end Go.Proofs.YtlakomilichhnaaGreatDoor
