/- Parts. -/
import Derived.Test.YtlakomilichhnaaGreatDoorROf
namespace Go.Proofs.YtlakomilichhnaaGreatDoor
set_option maxHeartbeats 6400000
set_option maxRecDepth 100000
open Go.RowKit
open Bool renaming and_eq_true->Bu,eq_false_or_eq_true->DW,false_or->Jv,true_and->FL,true_or->K4
open Cp renaming ltI->Bf,put->D1,puts->BP
open Go renaming Addr->Aq,Calls->Af,Value->Ak,World->Ab,bodyPost_ret->Aw,cell_later->A4,heap_alloc_new->Ae
open IntKind renaming i64->Dr
open Ix renaming By->GR,Mod->EY,OwnT->Bd,PT->C5,Post->Eg,PsA->DT,authB->G7,drop_cons->Hv,firsts->Ek,folF->GT,insT->Gi,own_lower->D0,pick->D8,row_lower->DE,term->FQ,terms->JP
open Ix.IA renaming cell->Kn,of_own->Cb
open Lib renaming extract_data->DV,hid->J,toList_data->AG
open List renaming any_cons->Lh,any_eq_true->FN,append_assoc->AW,append_nil->AB,contains_iff_mem->J6,drop_length->Dd,filter_append->CE,filter_cons_of_neg->Fp,filter_cons_of_pos->Fm,flatMap_append->AR,flatMap_cons->CU,foldl_append->Ha,getElem?_eq_getElem->Ai,getElem?_eq_none->Ez,length->Dl,length_append->Ag,length_cons->AH,length_filter_le->BB,length_map->Ax,length_take->Az,map_append->AY,mem_append->AQ,mem_cons_of_mem->BH,mem_cons_self->B8,mem_filter->Be,mem_map->BG,mem_of_getElem?->AJ,mem_of_getLast?->Jn,mem_of_mem_take->Dc,nil_append->C8,take_length->At,take_succ_eq_append_getElem->C6,take_zero->BJ
open Nat renaming add_zero->BN,le_refl->Ad,le_trans->Au,lt_of_lt_of_le->AN,lt_or_ge->D5,zero_le->Am
open Option renaming none->A0,some->A3
open Proofs renaming intOf->Aj,own_below->B4
open Proofs.Tryz renaming func70->L8,ntmps70->K0,prog->A8,underlying26->BF,underlying35->Bk
open Rc renaming Fl->CH,FldA->Bz,allV->DJ,tagIs->Bg
open RowKit renaming Below->Aa
open RowKit.Below renaming heap_setCell->D4,refl->Ah
open Tx renaming below_drewN->DP,blk->A7,blk_later->A6,step->Ac
open Value renaming int->B3,string->AZ
open World renaming cell?_of_block->Ce,ownsRow_nil->AI,setCell->B5
open _root_.Array renaming getElem?_eq_some_iff->AA,getElem?_modify->Dy
variable {P:Prop}
namespace Rc
end Rc
theorem y04 (h:P:=by
 obtain⟨WF,hWF⟩:∃ ws,Ix.wordsF f [97]=ws:=⟨_,rfl⟩;rw[hWF]at hpt hwf;have HPT:=J hpt;have HWF:=J hWF;clear hpt hWF hti hf
 have CW:Hid (∀ w',Aa wr.heap.size wr w'->Af A8 140 #[.agg #[.string f.tag,.string f.ind,.slice sa f.subs.length sc,.int .i64 f.auth],.string ⟨#[97]⟩] w' fun e w''=>∃ v,e=.returned v/\Bd w'' w'.heap.size v WF/\Aa w'.heap.size w' w''):=J (fun w' hb'=>by
  have h9:=r20_words_c f sa sc ⟨#[97]⟩ w' (HSUB.out.below hb') hsl oX HSZ.out (by rw[show (⟨#[97]⟩:ByteArray).data.toList=[97] from rfl,HWF.out];omega);rw[show (⟨#[97]⟩:ByteArray).data.toList=[97] from rfl,HWF.out]at h9;exact h9)
 obtain⟨oa,oc,rfl,hso⟩:=Ix.own_sla hown;have HSO:=J hso;clear hso
 go_wp2_with (first
  |(go_at_call 138;(with_reducible refine (r20_joined_c acc WF oa va oc vc _ (HSO.out.below hb2) HSV.out oQ).mono ?_);rintro e w3 ⟨v3,rfl,hown3,hb3⟩;have s3:=hb3.size)
  |(go_at_call 140;(with_reducible refine (CW.out _ (Ah _ _)).mono ?_);rintro e w2 ⟨v2,rfl,hown2,hb2⟩;obtain⟨va,vc,rfl,hsv⟩:=zix;have HSV:=zrk;clear hsv hown2;have s2:=hb2.size))
 go_roundw
 case rel=>exact⟨k+1,hlt,by go_num,by rw[HPT.out];exact D0 hown3 oQ,Ac (Ac hb hb2) hb3,Ac (Ac hbW hb2) hb3⟩
 case measure=>simp[Aj];omega):P:=h
theorem yr8 (h:P:=by
 rw[if_neg hti,AB]at hpt;have HPT:=zju;clear hpt hti hf;go_wp2;go_roundw
 case rel=>exact⟨k+1,hlt,by go_num,by rw[HPT.out];exact hown,hb,hbW⟩
 case measure=>simp[Aj];omega):P:=h
theorem r20_Terms_2 (fs:List CH) (a:Option Aq) (c:Nat) (id ver kind:Int) (lang:ByteArray)  (w:Ab) (h:Bz w a c fs) (hM:EY fs)  :
  Af A8 70 #[.agg #[.int .i64 id,.int .i64 ver,.int .i64 kind,.string lang,.slice a fs.length c],.int .i64 2] w fun e w'=>∃ v,e=.returned v/\Bd w' w.heap.size v (FQ fs 2)/\Aa w.heap.size w w':=by
 obtain⟨W,hW,hB,-,-,-,-,c4⟩:=zb;have HS:=J (h.below hB);clear h;have hlen:=hM.len;have hcap:=HS.out.cap;have hbB:=hB.size;go_enter L8,K0;go_wp2;clear hW;go_loopw [5,6] (fun v i wr=>∃ (k:Nat),k<=fs.length/\i=.int .i64 k/\Bd wr w.heap.size v (D8 G7 [97] (fs.take k))/\Aa w.heap.size w wr/\Aa W.heap.size W wr) (fun _ i _=>fs.length - (Aj i).toNat)
 case atStart=>exact⟨0,Am _,rfl,AI _ _ _ _,hB,Ah _ _⟩
 case round =>
  obtain⟨k,hk,rfl,hown,hb,hbW⟩:=hrel;have hbs:=hb.size;have hbWs:=hbW.size;replace c4:=A4 hbW c4;by_cases hlt:k<fs.length
  ·obtain⟨f,hf⟩:=zah;have hfm:=zhr;obtain⟨B,o,sa,sc,rfl,hbl,d0,d1,d2,d3,hsub⟩:=zpn;replace d0:=A4 hbW d0;replace d1:=A4 hbW d1;replace d2:=A4 hbW d2;replace d3:=A4 hbW d3;have HSUB:=J (hsub.below hbW);clear hsub;have hpt:=Ix.pick_take (p:=G7) (codes:=[97]) hf;have hpl:=Ix.pick_le (p:=G7) (codes:=[97]) (fs:=fs.take k) (fun g hg=>hM.words g (Dc hg) _);rw[Az]at hpl;have hwf:=hM.words f hfm [97];have hsl:=zne;have HSZ:=zpl;obtain⟨acc,hacc⟩:∃ acc,D8 G7 [97] (fs.take k)=acc:=⟨_,rfl⟩;rw[hacc]at hown hpt hpl;have hpl2:=zfi;clear hpl hacc;rcases DW (f.tag.toList == [49,48,48]) with t0 | t0
   ·have b0:Bg [49,48,48] f=true:=by unfold Bg;rw[<- AG];exact t0
    have hti:G7 f=true:=by unfold G7;rw[b0];simp
    rw[if_pos hti]at hpt;clear b0;exact y04
   ·have b0:Bg [49,48,48] f=false:=by unfold Bg;rw[<- AG];exact t0
    rcases DW (f.tag.toList == [49,49,48]) with t1 | t1
    ·have b1:Bg [49,49,48] f=true:=by unfold Bg;rw[<- AG];exact t1
     have hti:G7 f=true:=by unfold G7;rw[b1];simp
     rw[if_pos hti]at hpt;clear b0 b1;exact y04
    ·have b1:Bg [49,49,48] f=false:=by unfold Bg;rw[<- AG];exact t1
     rcases DW (f.tag.toList == [55,48,48]) with t2 | t2
     ·have b2:Bg [55,48,48] f=true:=by unfold Bg;rw[<- AG];exact t2
      have hti:G7 f=true:=by unfold G7;rw[b2];simp
      rw[if_pos hti]at hpt;clear b0 b1 b2;exact y04
     ·have b2:Bg [55,48,48] f=false:=by unfold Bg;rw[<- AG];exact t2
      rcases DW (f.tag.toList == [55,49,48]) with t3 | t3
      ·have b3:Bg [55,49,48] f=true:=by unfold Bg;rw[<- AG];exact t3
       have hti:G7 f=true:=by unfold G7;rw[b3];simp
       rw[if_pos hti]at hpt;clear b0 b1 b2 b3;exact y04
      ·have b3:Bg [55,49,48] f=false:=by unfold Bg;rw[<- AG];exact t3
       have hti:¬ G7 f=true:=by unfold G7;rw[b0,b1,b2,b3];simp
       clear b0 b1 b2 b3;exact yr8
  ·obtain rfl:k=fs.length:=oQ;rw[At]at hown;go_wp2;go_ret;exact⟨_,rfl,hown,hb⟩
theorem r07_All_own_c (f:CH) (a:Option Aq) (c:Nat) (codes:ByteArray) (w:Ab) (h:Rc.SubA w a c f.subs) (hl:f.subs.length<=1000) (hs:codes.size<=1000) :
  Af A8 142 #[.agg #[.string f.tag,.string f.ind,.slice a f.subs.length c,.int .i64 f.auth],.string codes] w fun e w'=>∃ v,e=.returned v/\w'.ownsRow w.heap.size 9 1 v (DJ f.subs codes.data.toList).length ((DJ f.subs codes.data.toList).map AZ)/\Aa w.heap.size w w':=by
 obtain⟨i0,hi0,hz0,hz1,hz2⟩:=zih;obtain⟨W,hW,hB,-,-,c2,-⟩:=zal;have hS:=zfw;have hcap:=h.cap;go_enter Tryz.func142,Tryz.ntmps142;go_wp2;clear hW;go_loopw [5,6] (fun v i wr=>∃ (k:Nat) (L:List ByteArray),k<=f.subs.length/\i=.int .i64 k/\Hid (L=DJ (f.subs.take k) codes.data.toList)/\L.length<=k/\wr.ownsRow W.heap.size 9 1 v L.length (L.map AZ)/\Aa W.heap.size W wr) (fun _ i _=>f.subs.length - (Aj i).toNat)
 case atStart=>exact⟨0,[],Am _,rfl,J rfl,Ad _,AI _ _ _ _,Ah _ _⟩
 case round =>
  obtain⟨k,L,hk,rfl,hL,hLk,hown,hb⟩:=hrel;have hbs:=hb.size;have hbw:=znd;replace c2:=A4 hb c2;by_cases hlt:k<f.subs.length
  ·obtain⟨x,hx⟩:=zdb;obtain⟨b,o,rfl,hbl,c0,c1⟩:=hS.get hx;replace c0:=A4 hb c0;replace c1:=A4 hb c1;have hT:=zol;cases hH:Rc.hasCode codes.data.toList x.1 with
   | true =>
    rw[if_pos hH,<- hL.out]at hT;have HT:=J hT;clear hT;have HH:=J hH;clear hH hx
    go_wp2_with (first
     |(go_at_call 213;refine (r07_in_c x.1 codes _ oQ).mono ?_;rintro e w1 ⟨rfl,rfl⟩;rw[HH.out])
     |(at_builtin;go_must (refine wpList_append_own _ rfl _ _ 26 rfl W.heap.size 9 i0 (.string ⟨#[]⟩) 1 16 BF hi0 hz0 hz1 hz2 rfl oX _ L.length _ rfl (hown.alloc _) ⟨_,0,A0⟩ 1 1 [.string x.2] rfl rfl (Tx.cell_one_at _ _ oY _ _) oG oK oQ oW ?_);intro v' w2 hown2 hg2 hnil2))
    have hb2:=zcv;go_roundw
    case rel=>exact⟨k+1,L++[x.2],oQ,by go_num,J HT.out.symm,by simp;omega,by simpa using hown2,hb2⟩
    case measure=>simp[Aj];omega
   | false =>
    rw[if_neg (by simp[hH]),AB,<- hL.out]at hT;have HT:=J hT;clear hT;have HH:=J hH;clear hH hx;go_wp2_with (go_at_call 213;refine (r07_in_c x.1 codes _ oQ).mono ?_;rintro e w1 ⟨rfl,rfl⟩;rw[HH.out]);go_roundw
    case rel=>exact⟨k+1,L,oQ,by go_num,J HT.out.symm,oQ,hown,hb⟩
    case measure=>simp[Aj];omega
  ·obtain rfl:k=f.subs.length:=oQ;have hL2:=hL.out;rw[Rc.take_all]at hL2;subst hL2;go_wp2;go_ret
   exact⟨_,rfl,⟨hown.1,by
    rcases hown.2 with h1 | ⟨g,cap,cur,h1,h2,h3,h4⟩
    ·exact .inl h1
    ·exact .inr ⟨g,cap,cur,h1,by have:=hB.size;omega,h3,h4⟩⟩,hbw⟩
namespace Ix
open Rc
def numL (L:List ByteArray):List By:=(L.map fun s=>plainB s.data.toList).filter fun x=>!(x == [])
def nums (fs:List Fl):List By:=(fs.filter numB).flatMap numF
theorem numL_nil:numL []=[]:=rfl
theorem numL_le (L:List ByteArray):(numL L).length<=L.length:=by
 unfold numL;exact Au (BB _ _) uB
theorem numL_take {L:List ByteArray}{k:Nat}{x:ByteArray} (h:L[k]?=A3 x):numL (L.take (k+1))=numL (L.take k)++(if plainB x.data.toList=[] then [] else [plainB x.data.toList]):=by
 have hlt:=zdc;unfold numL;rw[C6 hlt,AY,CE];rw[Ai hlt]at h;injection h with h;rw[h];congr 1;by_cases hp:plainB x.data.toList=[] <;> simp[hp]
theorem numF_le (f:Fl):(numF f).length<=f.subs.length:=by
 unfold numF;refine Au (BB _ _) ?_;rw[Ax];unfold allV;rw[Ax];exact BB _ _
theorem nums_le:∀ {fs:List Fl},(∀ f∈fs,f.subs.length<=1000)->(nums fs).length<=1000*fs.length
 | [],_=>Am _
 | f::fs,h=>by
  have ih:=nums_le (fs:=fs) (fun g hg=>h g (BH _ hg));have h1:=h f (B8 ..);have h2:=numF_le f;unfold nums at ih ⊢;by_cases hp:numB f=true
  ·rw[Fm hp,CU,Ag,AH];omega
  ·rw[Fp hp,AH];omega
theorem nums_take {fs:List Fl}{k:Nat}{f:Fl} (h:fs[k]?=A3 f):nums (fs.take (k+1))=nums (fs.take k)++(if numB f=true then numF f else []):=by
 have hlt:=zdc;unfold nums;rw[C6 hlt,CE,AR];rw[Ai hlt]at h;injection h with h;rw[h];congr 1;by_cases hp:numB f=true
 ·rw[if_pos hp,Fm hp];simp
 ·rw[if_neg hp,Fp hp];rfl
end Ix
theorem ysd (h:P:=by
 obtain⟨L,hL⟩:∃ L,DJ f.subs [97]=L:=⟨_,rfl⟩;have hLl:L.length<=1000:=by rw[<- hL];unfold DJ;rw[Ax];exact Au (BB _ _) hsl
 have hLz:∀ x∈L,x.size<=100000:=fun x hx=>by
   rw[<- hL]at hx;unfold DJ at hx;obtain⟨y,hy,rfl⟩:=zqb;exact HSZ.out y (Be.1 hy).1
 have hNF:Ix.numF f=Ix.numL L:=by unfold Ix.numF Ix.numL;rw[hL]
 rw[hNF]at hpt;have HPT:=J hpt;have HL:=J hL;have HLZ:=J hLz;clear hpt hL hLz hNF hti hf
 have CW:Hid (∀ w',Aa wr.heap.size wr w'->Af A8 142 #[.agg #[.string f.tag,.string f.ind,.slice sa f.subs.length sc,.int .i64 f.auth],.string ⟨#[97]⟩] w' fun e w''=>∃ v,e=.returned v/\w''.ownsRow w'.heap.size 9 1 v L.length (L.map AZ)/\Aa w'.heap.size w' w''):=J (fun w' hb'=>by
   have h9:=r07_All_own_c f sa sc ⟨#[97]⟩ w' (HSUB.out.below hb') hsl oX;rw[show (⟨#[97]⟩:ByteArray).data.toList=[97] from rfl,HL.out]at h9;exact h9)
 go_wp2_with (go_at_call 142;(with_reducible refine (CW.out _ (Ah _ _)).mono ?_);rintro e w2 ⟨v2,rfl,hown2,hb2⟩;obtain⟨va,vc,rfl,hsv⟩:=SLA.of_own hown2 rfl;have HSV:=zrk;have hlo2:∀ ad,va=A3 ad->wr.heap.size<=ad.block/\ad.block<w2.heap.size:=(fun ad h=>by subst h;exact hown2.lt _ rfl);clear hsv hown2;have s2:=hb2.size;have own3:=zrs;have k2:=Ac hb hb2;have kW:=Ac hbW hb2);have hcap2:=HSV.out.cap;have hw9:=zcw;go_loopw [5,11] (fun v i wr=>∃ (m:Nat),m<=L.length/\i=.int .i64 m/\Bd wr W.heap.size v (acc++Ix.numL (L.take m))/\Aa w.heap.size w wr/\Aa W.heap.size W wr/\Hid (SLA wr va vc L)/\(∀ ad,va=A3 ad->v.ownBlock≠A3 ad.block/\ad.block<wr.heap.size)) (fun _ i _=>L.length - (Aj i).toNat)
 case atStart=>exact⟨0,Am _,rfl,by rw[BJ,Ix.numL_nil,AB];exact own3,k2,kW,HSV,fun ad h=>⟨fun e=>by have:=(hown.lt _ e).2;have:=(hlo2 ad h).1;omega,(hlo2 ad h).2⟩⟩
 case round =>
   obtain⟨m,hm,rfl,hown4,hb4,hbW4,hs4,hne4⟩:=hrel;have hbs4:=hb4.size;have hbWs4:=hbW4.size;by_cases hlt2:m<L.length
   · obtain⟨x,hx⟩:∃ x,L[m]?=A3 x:=⟨_,Ai hlt2⟩
     obtain⟨B2,o2,rfl,hbl2,e2⟩:=hs4.out.get hx;have hxs:=HLZ.out x (AJ hx);have hnt:=Ix.numL_take hx;have hnl:=Ix.numL_le (L.take m);rw[Az]at hnl;obtain⟨PL,hPL⟩:∃ P,Ix.plainB x.data.toList=P:=⟨_,rfl⟩;rw[hPL]at hnt;have HPL:=J hPL;clear hPL hx;by_cases hP:PL=[]
     · subst hP
       rw[if_pos rfl,AB]at hnt;have HNT:=J hnt;clear hnt;go_wp2_with (go_at_call 143;(with_reducible refine (r20_plain_c x _ oQ).mono ?_);rintro e w5 ⟨rfl,hb5⟩;rw[HPL.out];have s5:=hb5.size);go_roundw
       case rel=>exact⟨m+1,hlt2,by go_num,by rw[HNT.out];exact B4 hown4 hb5,Ac hb4 hb5,Ac hbW4 hb5,J (hs4.out.below hb5),fun ad h=>⟨(hne4 ad h).1,by have:=(hne4 ad h).2;omega⟩⟩
       case measure=>simp[Aj];omega
     · rw[if_neg hP]at hnt
       have HNT:=J hnt;clear hnt;obtain⟨P,hPP⟩:∃ P:ByteArray,(⟨PL.toArray⟩:ByteArray)=P:=⟨_,rfl⟩;have hPe:(P.toList == [])=false:=by rw[AG,<- hPP];simpa using hP
       have HPP:=J hPP;clear hPP;have HK:Hid ((acc++Ix.numL (L.take m)).length<=1500000):=J (by rw[Ag];omega)
       go_wp2_with (first
         |(at_builtin;go_must (refine wpList_append_sl rfl _ _ 26 rfl W.heap.size 9 i0 _ 1 16 BF HI.out hz0 hz1 hz2 rfl oX _ (acc++Ix.numL (L.take m)).length _ rfl (HO6.out.alloc _) (A3 ⟨_,0,A0⟩) 1 1 [AZ P] rfl rfl oF oD oG aJ aW oW ?_);intro v' w7 hown7 hg7 hnil7)
         |(go_at_call 143;(with_reducible refine (r20_plain_c x w5 oQ).mono ?_);rintro e w6 ⟨rfl,hb6⟩;rw[HPL.out,HPP.out];have s6:=hb6.size;have HO6:=J (B4 (B4 hown4 hb5) hb6))
         |(go_at_call 143;(with_reducible refine (r20_plain_c x _ oQ).mono ?_);rintro e w5 ⟨rfl,hb5⟩;rw[HPL.out,HPP.out];have s5:=hb5.size;have e5:=A4 hb5 e2))
       have hW6:=Ac (Ac hbW4 hb5) hb6;have hg6:Aa W.heap.size W w7:=(hW6.alloc hW6.size _).grown hg7 oW (fun i hi=>(hown4.lt i hi).1);have s7:=hg7.size;rw[World.size_alloc]at s7;go_roundw
       case rel=>exact⟨m+1,hlt2,by go_num,by unfold Bd;rw[HNT.out,<- AW,Ag,AY];rw[<- HPP.out]at hown7;exact hown7,Ac hB hg6,hg6,J ((((hs4.out.below hb5).below hb6).below (Tx.newb _ _)).grown hg7 (fun g hg e=>(hne4 g hg).1 e.symm)),fun ad h=>⟨fun e=>by
             rcases hnil7 with h9 | h9
             · rw[h9]at e;exact (hne4 ad h).1 e
             · rw[h9]at e;injection e with e;have:=(hne4 ad h).2;simp at e;omega,by have:=(hne4 ad h).2;omega⟩⟩
       case measure=>simp[Aj];omega
   · obtain rfl:m=L.length:=oQ
     rw[At]at hown4;go_wp2;go_roundw
     case rel=>exact⟨k+1,hlt,by go_num,by rw[HPT.out];exact hown4,hb4,hbW4⟩
     case measure=>simp[Aj];omega):P:=h
theorem r20_Terms_4 (fs:List CH) (a:Option Aq) (c:Nat) (id ver kind:Int) (lang:ByteArray)  (w:Ab) (h:Bz w a c fs) (hM:EY fs)  :
    Af A8 70 #[.agg #[.int .i64 id,.int .i64 ver,.int .i64 kind,.string lang,.slice a fs.length c],.int .i64 4] w fun e w'=>∃ v,e=.returned v/\Bd w' w.heap.size v (FQ fs 4)/\Aa w.heap.size w w':=by
  obtain⟨W,hW,hB,-,-,-,-,c4⟩:=zb;have HS:=J (h.below hB);clear h;have hlen:=hM.len;have hcap:=HS.out.cap;have hbB:=hB.size;obtain⟨i0,hi0,hz0,hz1,hz2⟩:=zih;have HI:=J hi0;clear hi0;go_enter L8,K0;go_wp2;clear hW;go_loopw [5,8] (fun v i wr=>∃ (k:Nat),k<=fs.length/\i=.int .i64 k/\Bd wr W.heap.size v (Ix.nums (fs.take k))/\Aa w.heap.size w wr/\Aa W.heap.size W wr) (fun _ i _=>fs.length - (Aj i).toNat)
  case atStart=>exact⟨0,Am _,rfl,AI _ _ _ _,hB,Ah _ _⟩
  case round =>
    obtain⟨k,hk,rfl,hown,hb,hbW⟩:=hrel;have hbs:=hb.size;have hbWs:=hbW.size;replace c4:=A4 hbW c4;by_cases hlt:k<fs.length
    · obtain⟨f,hf⟩:∃ f,fs[k]?=A3 f:=⟨_,Ai hlt⟩
      have hfm:=zhr;obtain⟨B,o,sa,sc,rfl,hbl,d0,d1,d2,d3,hsub⟩:=zpn;replace d0:=A4 hbW d0;replace d1:=A4 hbW d1;replace d2:=A4 hbW d2;replace d3:=A4 hbW d3;have HSUB:=J (hsub.below hbW);clear hsub;have hpt:=Ix.nums_take hf;have hpl:=zin;rw[Az]at hpl;have hsl:=zne;have HSZ:=zpl;obtain⟨acc,hacc⟩:∃ acc,Ix.nums (fs.take k)=acc:=⟨_,rfl⟩;rw[hacc]at hown hpt hpl;have hpl2:=zfi;clear hpl hacc;rcases DW (f.tag.toList == [48,50,48]) with t0 | t0
      · have b0:Bg [48,50,48] f=true:=by unfold Bg;rw[<- AG];exact t0
        have hti:=zpx;rw[if_pos hti]at hpt;clear b0;exact ysd
      · have b0:Bg [48,50,48] f=false:=by unfold Bg;rw[<- AG];exact t0
        rcases DW (f.tag.toList == [48,50,50]) with t1 | t1
        · have b1:Bg [48,50,50] f=true:=by unfold Bg;rw[<- AG];exact t1
          have hti:=zpy;rw[if_pos hti]at hpt;clear b0 b1;exact ysd
        · have b1:Bg [48,50,50] f=false:=by unfold Bg;rw[<- AG];exact t1
          have hti:=zov;clear b0 b1;exact yr8
    · obtain rfl:k=fs.length:=oQ
      rw[At]at hown;go_wp2;go_ret;exact⟨_,rfl,D0 hown hbB,hb⟩
namespace Ix
open Rc
def termsTo (fs:List Fl) (k:Nat):List By:=(List.range k).flatMap fun i=>term fs (i+1)
theorem termsTo_succ (fs:List Fl) (k:Nat):termsTo fs (k+1)=termsTo fs k++term fs (k+1):=by
 unfold termsTo;rw[List.range_succ,AR];simp
theorem terms_zero (fs:List Fl):terms fs 0=termsTo fs 4++pick (begB 53) [97] fs:=by
 rw[termsTo_succ,termsTo_succ,termsTo_succ,termsTo_succ,show termsTo fs 0=[] from rfl,C8];rfl
theorem term_len {fs:List Fl} (h:Mod fs):∀ k,(term fs k).length<=2000000
 | 0=>Am _
 | 1=>by
  have h1:=pick_len (p:=tagIs [50,52,53]) (codes:=[97,98,110,112]) h;have h2:=pick_len (p:=tagIs [50,52,54]) (codes:=[97,98]) h;show (_++_:List By).length<=_;rw[Ag];omega
 | 2=>Au (pick_len h) oX
 | 3=>Au (pick_len h) oX
 | 4=>by
  have h1:=nums_le (fs:=fs) h.subs;have h2:=h.len;show (nums fs).length<=_;omega
 | _+5=>Am _
theorem termsTo_len {fs:List Fl} (h:Mod fs):∀ k,(termsTo fs k).length<=k*2000000
 | 0=>Ad _
 | k+1=>by
  have h1:=termsTo_len h k;have h2:=term_len h (k+1);rw[termsTo_succ,Ag,Nat.succ_mul];omega
theorem terms_len {fs:List Fl} (h:Mod fs) (f:Int):(terms fs f).length<=10000000:=by
 by_cases h0:f=0
 ·have h1:=termsTo_len h 4;have h2:=pick_len (p:=begB 53) (codes:=[97]) h;rw[h0,terms_zero,Ag];omega
 ·unfold terms;rw[if_neg h0];split
  ·exact Au (term_len h _) oX
  ·exact Am _
end Ix
theorem r20_Terms_14 (fs:List CH) (a:Option Aq) (c:Nat) (id ver kind:Int) (lang:ByteArray) (k:Nat) (h1:1<=k) (h4:k<=4) (w:Ab) (h:Bz w a c fs) (hM:EY fs) :
  Af A8 70 #[.agg #[.int .i64 id,.int .i64 ver,.int .i64 kind,.string lang,.slice a fs.length c],.int .i64 k] w fun e w'=>∃ v,e=.returned v/\Bd w' w.heap.size v (FQ fs k)/\Aa w.heap.size w w':=by
 rcases (by omega:k=1\/k=2\/k=3\/k=4) with rfl | rfl | rfl | rfl
 ·exact r20_Terms_1 fs a c id ver kind lang w h hM
 ·exact r20_Terms_2 fs a c id ver kind lang w h hM
 ·exact r20_Terms_3 fs a c id ver kind lang w h hM
 ·exact r20_Terms_4 fs a c id ver kind lang w h hM
theorem r20_Terms_0 (fs:List CH) (a:Option Aq) (c:Nat) (id ver kind:Int) (lang:ByteArray) (w:Ab) (h:Bz w a c fs) (hM:EY fs) :
  Af A8 70 #[.agg #[.int .i64 id,.int .i64 ver,.int .i64 kind,.string lang,.slice a fs.length c],.int .i64 0] w fun e w'=>∃ v,e=.returned v/\Bd w' w.heap.size v (JP fs 0)/\Aa w.heap.size w w':=by
 obtain⟨W,hW,hB,c0,c1,c2,c3,c4⟩:=zb;have HS:=J (h.below hB);clear h;have hbB:=hB.size;have CT:Hid (∀ (k:Nat) w',1<=k->k<=4->Aa W.heap.size W w'->Af A8 70 #[.agg #[.int .i64 id,.int .i64 ver,.int .i64 kind,.string lang,.slice a fs.length c],.int .i64 k] w' fun e w''=>∃ v,e=.returned v/\Bd w'' w'.heap.size v (FQ fs k)/\Aa w'.heap.size w' w''):=J (fun k w' h1 h4 hb=>r20_Terms_14 fs a c id ver kind lang k h1 h4 w' (HS.out.below hb) hM);have CB:Hid (∀ w',Aa W.heap.size W w'->Af A8 141 #[.agg #[.int .i64 id,.int .i64 ver,.int .i64 kind,.string lang,.slice a fs.length c],.int .u8 53,.string ⟨#[97]⟩] w' fun e w''=>∃ v,e=.returned v/\Bd w'' w'.heap.size v (D8 (Ix.begB 53) [97] fs)/\Aa w'.heap.size w' w''):=J (fun w' hb=>r20_begun_c fs a c id ver kind lang 53 ⟨#[97]⟩ w' (HS.out.below hb) hM oX);have HM:=J hM;clear hM;go_enter L8,K0;go_wp2;clear hW;go_loopw [5,12] (fun v i wr=>∃ (k:Nat),k<=4/\i=.int .i64 (k+1)/\Bd wr W.heap.size v (Ix.termsTo fs k)/\Aa W.heap.size W wr) (fun _ i _=>5 - (Aj i).toNat)
 case atStart=>exact⟨0,Am _,by go_num,AI _ _ _ _,Ah _ _⟩
 case round =>
  obtain⟨k,hk,rfl,hown,hb⟩:=hrel;have hbs:=hb.size;replace c0:=A4 hb c0;replace c1:=A4 hb c1;replace c2:=A4 hb c2;replace c3:=A4 hb c3;replace c4:=A4 hb c4;have hl:=Ix.termsTo_len HM.out k;obtain⟨oa,oc,rfl,hso⟩:=Ix.own_sla hown;have HSO:=J hso;clear hso;by_cases hlt:k<4
  ·have hl2:=Ix.term_len HM.out (k+1);have HT:=J (Ix.termsTo_succ fs k);have hk1:((k:Int)+1)<=4:=oQ;have hcast:((k+1:Nat):Int)=(k:Int)+1:=oQ
   have CK:Hid (∀ w',Aa W.heap.size W w'->Af A8 70 #[.agg #[.int .i64 id,.int .i64 ver,.int .i64 kind,.string lang,.slice a fs.length c],.int .i64 ((k:Int)+1)] w' fun e w''=>∃ v,e=.returned v/\Bd w'' w'.heap.size v (FQ fs (k+1))/\Aa w'.heap.size w' w''):=J (fun w' hb=>by
    have h9:=CT.out (k+1) w' oQ oQ hb;rw[hcast]at h9;exact h9)
   clear hcast
   go_wp2_with (first
    |(go_at_call 138;(with_reducible refine (r20_joined_c (Ix.termsTo fs k) (FQ fs (k+1)) oa va oc vc _ (HSO.out.below hb2) HSV.out oQ).mono ?_);rintro e w3 ⟨v3,rfl,hown3,hb3⟩;have s3:=hb3.size)
    |(go_at_call 70;(with_reducible refine (CK.out _ hb).mono ?_);rintro e w2 ⟨v2,rfl,hown2,hb2⟩;obtain⟨va,vc,rfl,hsv⟩:=zix;have HSV:=zrk;clear hsv hown2;have s2:=hb2.size))
   go_roundw
   case rel=>exact⟨k+1,oQ,by go_num,by rw[HT.out];exact D0 hown3 oQ,Ac (Ac hb hb2) hb3⟩
   case measure=>simp[Aj];omega
  ·obtain rfl:k=4:=oQ;have hl2:=zow;have HT:=J (Ix.terms_zero fs);clear hlt hk
   go_wp2_with (first
    |(go_at_call 138;(with_reducible refine (r20_joined_c (Ix.termsTo fs 4) (D8 (Ix.begB 53) [97] fs) oa va oc vc _ (HSO.out.below hb2) HSV.out oQ).mono ?_);rintro e w3 ⟨v3,rfl,hown3,hb3⟩;have s3:=hb3.size)
    |(go_at_call 141;(with_reducible refine (CB.out _ hb).mono ?_);rintro e w2 ⟨v2,rfl,hown2,hb2⟩;obtain⟨va,vc,rfl,hsv⟩:=zix;have HSV:=zrk;clear hsv hown2;have s2:=hb2.size))
   go_ret;exact⟨_,rfl,by rw[HT.out];exact D0 hown3 oQ,Ac (Ac (Ac hB hb) hb2) hb3⟩
theorem r20_Terms_x (fs:List CH) (a:Option Aq) (c:Nat) (id ver kind:Int) (lang:ByteArray) (x:Int) (hx:x<0\/4<x) (w:Ab) :
  Af A8 70 #[.agg #[.int .i64 id,.int .i64 ver,.int .i64 kind,.string lang,.slice a fs.length c],.int .i64 x] w fun e w'=>∃ v,e=.returned v/\Bd w' w.heap.size v []/\Aa w.heap.size w w':=by
 obtain⟨W,hW,hB,c0,c1,c2,c3,c4⟩:=zb;have t0:(x == 0)=false:=by simp;omega
 have t1:(x == 1)=false:=by simp;omega
 have t2:(x == 2)=false:=by simp;omega
 have t3:(x == 3)=false:=by simp;omega
 have t4:(x == 4)=false:=by simp;omega
 clear hx;go_enter L8,K0;go_wp2;go_ret;exact⟨_,rfl,AI _ _ _ _,hB⟩
theorem r20_Terms_c (fs:List CH) (a:Option Aq) (c:Nat) (id ver kind:Int) (lang:ByteArray) (x:Int) (w:Ab) (h:Bz w a c fs) (hM:EY fs) :
  Af A8 70 #[.agg #[.int .i64 id,.int .i64 ver,.int .i64 kind,.string lang,.slice a fs.length c],.int .i64 x] w fun e w'=>∃ v,e=.returned v/\Bd w' w.heap.size v (JP fs x)/\Aa w.heap.size w w':=by
 by_cases h0:x=0
 ·subst h0;exact r20_Terms_0 fs a c id ver kind lang w h hM
 ·unfold JP;rw[if_neg h0];by_cases h4:1<=x/\x<=4
  ·rw[if_pos h4];obtain⟨k,rfl⟩:∃ k:Nat,x=k:=⟨x.toNat,oQ⟩;exact r20_Terms_14 fs a c id ver kind lang k oQ oQ w h hM
  ·rw[if_neg h4];exact r20_Terms_x fs a c id ver kind lang x oQ w
namespace Br
variable {α : Type} {enc : α -> List Ak} {size : Nat}
theorem FA.agree {w w':Ab}{a:Option Aq}{c:Nat}{xs:List α} (h:FA enc size w a c xs) (hs:w.heap.size<=w'.heap.size) (hg:xs≠[]->∀ g,a=A3 g->w'.heap[g.block]?=w.heap[g.block]?):FA enc size w' a c xs:=by
 obtain⟨b,o,h1,h2⟩:=h.at_;refine⟨h.cap,h.max,b,o,fun hn=>⟨(h1 hn).1,AN (h1 hn).2 hs⟩,fun j i x u hx hu=>?_⟩;have hne:xs≠[]:=by intro e;subst e;simp at hx
 have hb:=hg hne ⟨b,o,A0⟩ (h1 hne).1;exact (Ce (a:=⟨b,o+j*size+i,A0⟩) hb).trans (h2 j i x u hx hu)
theorem FA.lt {w:Ab}{a:Option Aq}{c:Nat}{xs:List α} (h:FA enc size w a c xs) (hne:xs≠[]):∀ g,a=A3 g->g.block<w.heap.size:=by
 obtain⟨b,o,h1,h2⟩:=h.at_;intro g hg;rw[(h1 hne).1]at hg;injection hg with hg;rw[<- hg];exact (h1 hne).2
theorem size_set (w:Ab) (a:Aq) (v:Ak):(w.setCell a v).heap.size=w.heap.size:=by simp[B5]
theorem FA.set {w:Ab}{a:Option Aq}{c:Nat}{xs:List α} (h:FA enc size w a c xs) {X:Nat} (hX:xs≠[]->∀ g,a=A3 g->g.block≠X) (i:Nat) (v:Ak):FA enc size (w.setCell ⟨X,i,A0⟩ v) a c xs :=
 h.agree (by rw[size_set];exact Ad _) (fun hn g hg=>D4 w ⟨X,i,A0⟩ v g.block (hX hn g hg))
end Br
namespace Ix
open Rc
theorem known_map (T:List PT) (id:Int):known (T.map (·.1)) id=T.any fun t=>t.1.id == id:=by
 unfold known;rw[List.any_map];rfl
theorem RdA.ids {w:Ab}{a:Option Aq}{c:Nat}{rs:List Rd} (h:RdA w a c rs) (hne:rs≠[]):∃ b o,a=A3 ⟨b,o,A0⟩/\b<w.heap.size/\∀ (k:Nat) r,rs[k]?=A3 r->w.cell? ⟨b,o+k*5,A0⟩=A3 (.int .i64 r.id):=by
 obtain⟨b,o,h1,h2⟩:=h.at_;exact⟨b,o,(h1 hne).1,(h1 hne).2,fun k r hk=>(h2 k r hk).1⟩
end Ix
theorem r20_known_c (T:List C5) (a:Option Aq) (c:Nat) (id:Int) (w:Ab) (h:Br.FA Ix.encP 4 w a c T) (hn:T.length<=1000000000000) :
  Af A8 144 #[.agg #[.slice a T.length c],.int .i64 id] w fun e w'=>e=.returned (.bool (Ix.known (T.map (·.1)) id))/\Aa w.heap.size w w':=by
 have hcap:=h.cap;obtain⟨W,hW,hB,c0⟩:=zcy;have HS:=J (h.below hB);clear h;rw[Ix.known_map];go_enter Tryz.func144,Tryz.ntmps144;go_wp2;clear hW;go_loop [5] (fun i=>∃ (k:Nat),k<=T.length/\i=.int .i64 k/\Hid ((T.drop k).any (fun t=>t.1.id == id)=T.any (fun t=>t.1.id == id))) (fun i=>T.length - (Aj i).toNat)
 case atStart=>exact⟨0,Am _,rfl,J rfl⟩
 case round =>
  obtain⟨k,hk,rfl,hE⟩:=hrel;by_cases hlt:k<T.length
  ·obtain⟨y,hy⟩:=zaz;have hdr:=hE.out;rw[Hv hy,Lh]at hdr;obtain⟨b,o,rfl,hbl,hcs⟩:=zkd;have f0:=hcs 0 _ rfl;have f1:=hcs 1 _ rfl;have f2:=hcs 2 _ rfl;have f3:=hcs 3 _ rfl;rw[BN]at f0;clear hcs;cases hq:(y.1.id == id) with
   | true =>
    rw[hq,K4]at hdr;have HN:=J hdr;clear hdr hE hy;go_wp2;go_ret;exact⟨by rw[<- HN.out];rfl,hB⟩
   | false =>
    rw[hq,Jv]at hdr;have HN:=J hdr;clear hdr hE hy;go_wp2;go_round
    case rel=>exact⟨k+1,hlt,by go_num,HN⟩
    case measure=>simp[Aj];omega
  ·obtain rfl:k=T.length:=oQ;have hN:=hE.out;rw[Dd]at hN;have HN:=J hN;clear hN hE;go_wp2;go_ret;exact⟨by rw[<- HN.out];rfl,hB⟩
theorem r20_met_c (rs:List Rc.Rd) (a:Option Aq) (c:Nat) (i:Nat) (r:Rc.Rd) (w:Ab) (h:Rc.RdA w a c rs) (hn:rs.length<=1000000000000) (hr:rs[i]?=A3 r) :
  Af A8 73 #[.slice a rs.length c,.int .i64 i] w fun e w'=>e=.returned (.bool (Ix.met rs i r))/\Aa w.heap.size w w':=by
 have hcap:=h.cap;have hil:=(List.getElem?_eq_some_iff.1 hr).1;obtain⟨b,o,rfl,hbl,hat⟩:=Ix.RdA.ids h (by intro e;rw[e]at hr;simp at hr);have HS:=J hat;have f0:=hat i r hr;clear h hat hr;have hi2:(i:Int)<(rs.length:Int):=oQ;have hi0:(0:Int)<=(i:Int):=oQ;go_enter Tryz.func73,Tryz.ntmps73;go_wp2;go_loopw [5] (fun v wr=>∃ (k:Nat),k<=i/\v=.int .i64 k/\Hid (((rs.take i).drop k).any (fun q=>q.id == r.id)=Ix.met rs i r)/\Aa w.heap.size w wr) (fun v _=>i - (Aj v).toNat)
 case atStart=>exact⟨0,Am _,rfl,J rfl,Ah _ _⟩
 case round =>
  obtain⟨k,hk,rfl,hE,hb⟩:=hrel;replace f0:=A4 hb f0;by_cases hlt:k<i
  ·obtain⟨q,hq⟩:∃ q,rs[k]?=A3 q:=⟨_,Ai oQ⟩;have hd:=hE.out;rw[Hv (x:=q) (by rw[List.getElem?_take_of_lt hlt];exact hq),Lh]at hd;have e0:=A4 hb (HS.out k q hq);have hk2:(k:Int)<(rs.length:Int):=oQ;have hk0:(0:Int)<=(k:Int):=oQ;cases hc:(q.id == r.id) with
   | true =>
    rw[hc,K4]at hd;have HN:=J hd;clear hd hE hq;go_wp2;go_quiet (fail);go_wp2;go_ret;exact⟨by rw[<- HN.out];rfl,Ac hb (DP (Ah wr.heap.size wr) nq)⟩
   | false =>
    rw[hc,Jv]at hd;have HN:=J hd;clear hd hE hq;go_wp2;go_quiet (fail);go_wp2;go_roundw
    case rel=>exact⟨k+1,hlt,by go_num,HN,Ac hb (DP (Ah wr.heap.size wr) nq)⟩
    case measure=>simp[Aj];omega
  ·obtain rfl:k=i:=oQ;have hN:=hE.out;rw[List.drop_eq_nil_of_le (by rw[Az];omega)]at hN;have HN:=J hN;clear hN hE;go_wp2;go_ret;exact⟨by rw[<- HN.out];rfl,hb⟩
theorem SLA.agree {w w':Ab}{a:Option Aq}{c:Nat}{xs:List ByteArray} (h:SLA w a c xs) (hs:w.heap.size<=w'.heap.size) (hg:xs≠[]->∀ g,a=A3 g->w'.heap[g.block]?=w.heap[g.block]?):SLA w' a c xs:=by
 obtain⟨b,o,h1,h2⟩:=h.at_;refine⟨h.cap,h.max,b,o,fun hn=>⟨(h1 hn).1,AN (h1 hn).2 hs⟩,fun j x hx=>?_⟩;have hne:xs≠[]:=by intro e;subst e;simp at hx
 have hb:=hg hne ⟨b,o,A0⟩ (h1 hne).1;exact (Ce (a:=⟨b,o+j,A0⟩) hb).trans (h2 j x hx)
theorem SLA.set {w:Ab}{a:Option Aq}{c:Nat}{xs:List ByteArray} (h:SLA w a c xs) {X:Nat} (hX:xs≠[]->∀ g,a=A3 g->g.block≠X) (i:Nat) (v:Ak):SLA (w.setCell ⟨X,i,A0⟩ v) a c xs :=
 h.agree zsu (fun hn g hg=>D4 w ⟨X,i,A0⟩ v g.block (hX hn g hg))
theorem SLA.row {w:Ab}{a:Option Aq}{c:Nat}{xs:List ByteArray} (h:SLA w a c xs) (hne:xs≠[]):∃ b o,a=A3 ⟨b,o,A0⟩/\b<w.heap.size/\∀ (j:Nat) x,xs[j]?=A3 x->w.cell? ⟨b,o+j,A0⟩=A3 (.string x):=by
 obtain⟨b,o,h1,h2⟩:=h.at_;exact⟨b,o,(h1 hne).1,(h1 hne).2,h2⟩
theorem hp_alloc_lt {w:Ab}{k:Nat} (hk:k<w.heap.size) (o:Obj):(w.alloc o).heap[k]?=w.heap[k]?:=Below.heap_alloc w o k hk
namespace Ix
open Rc
def postsTo (r:Rd):Nat->List Post
 | 0=>[]
 | k+1=>postsTo r k++fposts k r.id (terms r.fields k)
theorem posts_to (r:Rd):postsTo r 5=posts r:=by
 unfold posts;simp only[postsTo,C8,AW];rfl
def Far (T:List PT) (a:Option Aq) (Y:Nat):Prop:=(T≠[]->∀ g,a=A3 g->g.block≠Y)/\∀ t∈T,t.1.at_≠[]->∀ g,t.2.1=A3 g->g.block≠Y
theorem PsA.set {w:Ab}{a:Option Aq}{c:Nat}{T:List PT} (h:PsA w a c T) {X:Nat} (hX:Far T a X) (i:Nat) (v:Ak):PsA (w.setCell ⟨X,i,A0⟩ v) a c T :=
 ⟨h.fa.set hX.1 i v,fun t ht=>(h.ats t ht).set (hX.2 t ht) i v⟩
theorem PsA.far {w:Ab}{a:Option Aq}{c:Nat}{T:List PT} (h:PsA w a c T) {Y:Nat} (hY:w.heap.size<=Y):Far T a Y :=
 ⟨fun hn g hg=>by have:=h.fa.lt hn g hg;omega,fun t ht hn g hg=>by have:=(h.ats t ht).lt hn g hg;omega⟩
structure AddS (w:Ab) (T:List PT) (a:Option Aq) (rec:Array Ak) (wr:Ab) (T':List PT) (a':Option Aq) (c':Nat):Prop where
 hb:Aa w.heap.size w wr
 kx:wr.heap[w.heap.size]?=A3 (.cells #[.slice a' T'.length c'] 24 (0,0))
 kr:wr.heap[w.heap.size+1]?=A3 (.cells rec 51 (0,0))
 k4:wr.heap[w.heap.size+1+1]?=A3 (.cells #[.slice A0 0 0] 24 (0,0))
 ps:PsA wr a' c' T'
 far:∀ Y,Y<w.heap.size+3->(Y<w.heap.size->Far T a Y)->Far T' a' Y
theorem AddS.below {w wr w':Ab}{T T':List PT}{a a':Option Aq}{c':Nat}{rec:Array Ak} (h:AddS w T a rec wr T' a' c') (hb:Aa wr.heap.size wr w'):AddS w T a rec w' T' a' c' :=
 ⟨Ac h.hb hb,A6 h.kx hb,A6 h.kr hb,A6 h.k4 hb,h.ps.below hb,h.far⟩
theorem AddS.size {w wr:Ab}{T T':List PT}{a a':Option Aq}{c':Nat}{rec:Array Ak} (h:AddS w T a rec wr T' a' c'):w.heap.size+2<wr.heap.size:=(AA.1 h.k4).1
theorem AddS.put {w wr w':Ab}{T T':List PT}{a a' va:Option Aq}{c' vc B:Nat}{rec:Array Ak}{t:PT} (h:AddS w T a rec wr T' a' c') (hb:Aa wr.heap.size wr w')
  (hB:w.heap.size+3<=B) (hown:PsA w' va vc (insT T' t)) (hva:∀ g,va=A3 g->B<=g.block) (ht:∀ g,t.2.1=A3 g->w.heap.size+3<=g.block):AddS w T a rec (w'.setCell ⟨w.heap.size,0,A0⟩ (.slice va (insT T' t).length vc)) (insT T' t) va vc:=by
 have h':=h.below hb
 have hfar:∀ Y,Y<w.heap.size+3->(Y<w.heap.size->Far T a Y)->Far (insT T' t) va Y:=fun Y hY hh=>by
  refine⟨fun _ g hg=>by have:=hva g hg;omega,fun x hx hn g hg=>?_⟩;rcases insT_mem hx with e | hx
  ·subst e;have:=ht g hg;omega
  ·exact (h.far Y hY hh).2 x hx hn g hg
 have hs:∀ k,k≠w.heap.size->(w'.setCell ⟨w.heap.size,0,A0⟩ (.slice va (insT T' t).length vc)).heap[k]?=w'.heap[k]?:=fun k hk=>D4 w' ⟨w.heap.size,0,A0⟩ _ k hk;refine⟨h'.hb.setCell oZ _,?_,(hs _ oQ).trans h'.kr,(hs _ oQ).trans h'.k4,?_,hfar⟩
 ·have:=h'.kx;simp[B5,Dy,this]
 ·exact hown.set (hfar _ oQ (fun h9=>absurd h9 (Nat.lt_irrefl _))) 0 _
theorem Ats.ins {w:Ab}{T:List PT}{t:PT} (h:Ats w T) (ht:IA w t.2.1 t.2.2 t.1.at_):Ats w (insT T t):=fun x hx=>by
 rcases insT_mem hx with e | hx
 ·rw[e];exact ht
 ·exact h x hx
theorem fold_snoc (x ps:List Post) (p:Post):(ps++[p]).foldl ins x=ins (ps.foldl ins x) p:=by
 rw[Ha];rfl
end Ix
theorem vv1 (h:P:=by
 have HPL:=J hpl;clear hpl;go_wp2;go_quiet (fail);have hbq:=zgj;have hown3:=B4 hown hbq;have hb3:=Ac hb hbq
 first
  |have hb3s:=hb3.size
   clear hbq;generalize wr.drewN nq=w3 at *;go_wp2_with (at_builtin;go_must (refine wpList_append_sl rfl _ _ 35 rfl wm.heap.size 3 i0 _ 1 8 Bk HI.out hz0 hz1 hz2 rfl oX _ (P.length) _ rfl (hown3.alloc _) (A3 ⟨_,0,A0⟩) 1 1 [.int .i64 (m:Int)] rfl rfl oF oD oG aJ aW oW ?_);intro v7 w7 hown7 hg7 hnil7);go_roundw
   case rel=>exact⟨m+1,hlt3,by go_num,by rw[HPL.out,Ag,AY];exact hown7,(hb3.alloc hb3s _).grown hg7 oW (fun j hj=>(hown3.lt j hj).1)⟩
   case measure=>simp[Aj];omega
  |clear hbq
   generalize wr.drewN nq=w3 at *;go_wp2;go_roundw
   case rel=>exact⟨m+1,hlt3,by go_num,by rw[HPL.out];exact hown3,hb3⟩
   case measure=>simp[Aj];omega):P:=h
theorem r20_Add_c (T:List C5) (a:Option Aq) (c:Nat) (r:Rc.Rd) (ra:Option Aq) (rc:Nat) (w:Ab) (h:DT w a c T) (hn:T.length<=5000000000) (hr:Bz w ra rc r.fields) (hM:EY r.fields) :
  Af A8 74 #[.agg #[.slice a T.length c],.agg #[.int .i64 r.id,.int .i64 r.ver,.int .i64 r.kind,.string r.lang,.slice ra r.fields.length rc]] w fun e w'=>(∃ a' c' T',e=.returned (.agg #[.slice a' (Dl T') c'])/\DT w' a' c' T'/\T'.map (·.1)=Ix.add (T.map (·.1)) r/\T'.length<=T.length+50000000/\(∀ Y,Y<w.heap.size->Ix.Far T a Y->Ix.Far T' a' Y)/\Aa w.heap.size w w'):=by
 obtain⟨i0,hi0,hz0,hz1,hz2⟩:=zhb;have HI:=J hi0;clear hi0;obtain⟨W,hW⟩:∃ W,((w.alloc (.cells #[.slice a T.length c] 24)).alloc (.cells #[.int .i64 r.id,.int .i64 r.ver,.int .i64 r.kind,.string r.lang,.slice ra r.fields.length rc] 51)).alloc (.cells #[.slice A0 0 0] 24)=W:=⟨_,rfl⟩;have hB:=zbl;have hsW:=zqq
 have hS:Ix.AddS w T a #[.int .i64 r.id,.int .i64 r.ver,.int .i64 r.kind,.string r.lang,.slice ra r.fields.length rc] W T a c:=by
  refine⟨hB,?_,?_,?_,h.below hB,fun Y hY hh=>?_⟩
  ·rw[<- hW];exact (hp_alloc_lt oW _).trans ((hp_alloc_lt oZ _).trans (Ae w _))
  ·rw[<- hW];exact (hp_alloc_lt oZ _).trans (by simpa using Ae (w.alloc (.cells #[.slice a T.length c] 24)) (.cells #[.int .i64 r.id,.int .i64 r.ver,.int .i64 r.kind,.string r.lang,.slice ra r.fields.length rc] 51))
  ·rw[<- hW];simpa using Ae ((w.alloc (.cells #[.slice a T.length c] 24)).alloc (.cells #[.int .i64 r.id,.int .i64 r.ver,.int .i64 r.kind,.string r.lang,.slice ra r.fields.length rc] 51)) (.cells #[.slice A0 0 0] 24)
  ·rcases D5 Y w.heap.size with h1 | h1
   ·exact hh h1
   ·exact h.far h1
 obtain⟨x0,hx0⟩:∃ x0,T.map (·.1)=x0:=⟨_,rfl⟩;have HX:=J hx0;rw[hx0];clear hx0;obtain⟨c0,-⟩:=Tx.c1 hS.kx;obtain⟨c4,-⟩:=Tx.c1 hS.kr;obtain⟨kc,kf,kl⟩:=A7 hS.k4;by_cases hid:r.id<1
 ·have HA:Hid (Ix.add x0 r=x0):=J (by unfold Ix.add;rw[if_pos (.inl hid)]);have hd:decide (r.id<1)=true:=by simpa using hid
  clear hid;go_enter Tryz.func74,Tryz.ntmps74;go_wp2;refine Aw (v:=.agg #[.slice a T.length c]) OJ rfl ⟨a,c,T,rfl,?_,by rw[HA.out,HX.out],oQ,fun Y _ hf=>hf,?_⟩
  ·exact hS.ps.set (h.far oQ) _ _
  ·exact hB.setCell oW _
 cases hkn:Ix.known x0 r.id with
 | true =>
  have HA:Hid (Ix.add x0 r=x0):=J (by unfold Ix.add;rw[if_pos (.inr hkn)]);have HK:=J hkn;clear hkn;have hd:decide (r.id<1)=false:=by simpa using hid
  have hid2:1<=r.id:=oQ;clear hid
  have CK:Hid (∀ w',Aa W.heap.size W w'->Af A8 144 #[.agg #[.slice a T.length c],.int .i64 r.id] w' fun e w''=>e=.returned (.bool true)/\Aa w'.heap.size w' w''):=J (fun w' hb=>by
   have h9:=zme;rw[HX.out,HK.out]at h9;exact h9)
  go_enter Tryz.func74,Tryz.ntmps74;go_wp2_with (go_at_call 144;(with_reducible refine (CK.out _ (Ah _ _)).mono ?_);rintro e w1 ⟨rfl,hb1⟩;have hS1:=hS.below hb1;have d0:=zig;have d4:=znm;obtain⟨kc,kf,kl⟩:=A7 hS1.k4);refine Aw (v:=.agg #[.slice a T.length c]) OJ rfl ⟨a,c,T,rfl,?_,by rw[HA.out,HX.out],oQ,fun Y _ hf=>hf,?_⟩
  ·exact hS1.ps.set (h.far oQ) _ _
  ·exact hS1.hb.setCell oW _
 | false =>
  have HA:Hid (Ix.add x0 r=(Ix.postsTo r 5).foldl Ix.ins x0):=J (by unfold Ix.add;rw[if_neg (by rintro (h | h);omega;rw[hkn]at h;cases h),Ix.posts_to]);have HK:=J hkn;clear hkn;have hd:decide (r.id<1)=false:=by simpa using hid
  have hid2:1<=r.id:=oQ;clear hid
  have CK:Hid (∀ w',Aa W.heap.size W w'->Af A8 144 #[.agg #[.slice a T.length c],.int .i64 r.id] w' fun e w''=>e=.returned (.bool false)/\Aa w'.heap.size w' w''):=J (fun w' hb=>by
   have h9:=zme;rw[HX.out,HK.out]at h9;exact h9)
  go_enter Tryz.func74,Tryz.ntmps74;go_wp2_with (go_at_call 144;(with_reducible refine (CK.out _ (Ah _ _)).mono ?_);rintro e w1 ⟨rfl,hb1⟩;have hS1:=hS.below hb1;have d0:=zig;have d4:=znm;obtain⟨kc,kf,kl⟩:=A7 hS1.k4);clear hW;go_loopw [5] (fun f wr=>∃ (k:Nat) (T':List C5) (a':Option Aq) (c':Nat),k<=5/\f=.int .i64 k/\Ix.AddS w T a #[.int .i64 r.id,.int .i64 r.ver,.int .i64 r.kind,.string r.lang,.slice ra r.fields.length rc] wr T' a' c'/\Hid (T'.map (·.1)=(Ix.postsTo r k).foldl Ix.ins x0)/\T'.length<=T.length+10000000*k) (fun f _=>5 - (Aj f).toNat)
  case atStart=>exact⟨0,T,a,c,oQ,by go_num,hS1,HX,oQ⟩
  case round =>
   obtain⟨k,T',a',c',hk,rfl,hS',hE,hTl⟩:=hrel;have hss:=hS'.size;obtain⟨e0,e1,e2,e3,e4,-⟩:=Tx.c5 hS'.kr;by_cases hlt:k<5
   ·obtain⟨ts,hts⟩:∃ ts,JP r.fields (k:Int)=ts:=⟨_,rfl⟩;have htl:=Ix.terms_len hM (k:Int);rw[hts]at htl;have hk4:(k:Int)<=4:=oQ;have hpt:Ix.postsTo r (k+1)=Ix.postsTo r k++(Ek ts).map (Ix.mkp k r.id ts):=by rw[Ix.postsTo,hts];rfl
    have HPT:=J hpt;clear hpt
    have CT:Hid (Af A8 70 #[.agg #[.int .i64 r.id,.int .i64 r.ver,.int .i64 r.kind,.string r.lang,.slice ra r.fields.length rc],.int .i64 (k:Int)] wr fun e w'=>∃ v,e=.returned v/\Bd w' wr.heap.size v ts/\Aa wr.heap.size wr w'):=J (by
     have h9:=r20_Terms_c r.fields ra rc r.id r.ver r.kind r.lang (k:Int) wr (hr.below hS'.hb) hM;rw[hts]at h9;exact h9)
    have HTS:=J hts;clear hts;go_wp2_with (go_at_call 70;(with_reducible refine CT.out.mono ?_);rintro e w2 ⟨v2,rfl,hown2,hb2⟩;obtain⟨ta,tc,rfl,hs2⟩:=zix;have HS2:=J hs2;have hta:∀ g,ta=A3 g->w.heap.size+3<=g.block:=(fun g hg=>by subst hg;have:=(hown2.lt _ rfl).1;omega);clear hs2 hown2);have htcap:=HS2.out.cap;rw[Ax]at htcap;have hS2:=hS'.below hb2;clear e0 e1 e2 e3 e4 CT;go_loopw [7] (fun i wr=>∃ (j:Nat) (T2:List C5) (a2:Option Aq) (c2:Nat),j<=ts.length/\i=.int .i64 j/\Ix.AddS w T a #[.int .i64 r.id,.int .i64 r.ver,.int .i64 r.kind,.string r.lang,.slice ra r.fields.length rc] wr T2 a2 c2/\Hid (T2.map (·.1)=(Ix.postsTo r k++(Ek (ts.take j)).map (Ix.mkp k r.id ts)).foldl Ix.ins x0)/\T2.length<=T.length+10000000*k+j/\Hid (SLA wr ta tc (ts.map fun x=>(⟨x.toArray⟩:ByteArray)))) (fun i _=>ts.length - (Aj i).toNat)
    case atStart=>exact⟨0,T',a',c',oQ,by go_num,hS2,J (by rw[BJ];show _=(Ix.postsTo r k++[]).foldl Ix.ins x0;rw[AB];exact hE.out),oQ,HS2⟩
    case round =>
     obtain⟨j,T2,a2,c2,hj,rfl,hS3,hE3,hTl3,hSL⟩:=hrel;obtain⟨wm,hwm⟩:∃ wm,wm=wr:=⟨_,rfl⟩;subst hwm;have hms:=hS3.size;by_cases hlt2:j<ts.length
     ·obtain⟨x,hx⟩:∃ x,ts[j]?=A3 x:=⟨_,Ai hlt2⟩;obtain⟨tb,to_,rfl,htb,hat⟩:=hSL.out.row (by intro e;rw[List.map_eq_nil_iff]at e;rw[e]at hlt2;simp at hlt2);have HAT:=J hat;have fj:wm.cell? ⟨tb,to_+j,A0⟩=A3 (.string ⟨x.toArray⟩):=hat j _ yJ;have hjn:(j:Int)<(ts.length:Int):=oQ;have hj0:(0:Int)<=(j:Int):=oQ;have hbm:=Ah wm.heap.size wm;clear hat;have HXJ:=J hx;clear hx;go_wp2;go_loopw [8,9] (fun v i wr=>∃ (m:Nat),m<=ts.length/\i=.int .i64 m/\wr.ownsRow wm.heap.size 3 1 v (Ix.places (ts.take m) x).length ((Ix.places (ts.take m) x).map (B3 .i64))/\Aa wm.heap.size wm wr) (fun _ i _=>ts.length - (Aj i).toNat)
      case atStart=>exact⟨0,Am _,rfl,AI _ _ _ _,Ah _ _⟩
      case round =>
       obtain⟨m,hm,rfl,hown,hb⟩:=hrel;have hbs:=hb.size;replace fj:=A4 hb fj;by_cases hlt3:m<ts.length
       ·obtain⟨y,hy⟩:∃ y,ts[m]?=A3 y:=⟨_,Ai hlt3⟩;have fm:wr.cell? ⟨tb,to_+m,A0⟩=A3 (.string ⟨y.toArray⟩):=A4 hb (HAT.out m _ OG);have hmn:(m:Int)<(ts.length:Int):=oQ;have hm0:(0:Int)<=(m:Int):=oQ;have hpl:=Ix.places_take x hy;have hll:=Ix.places_len (ts.take m) x;rw[Az]at hll;obtain⟨P,hP⟩:∃ P,Ix.places (ts.take m) x=P:=⟨_,rfl⟩;rw[hP]at hown hpl hll;have HK:Hid (P.length<=10000000):=J oQ;clear hP hll hy;cases hq:(y == x) with
        | true =>
         rw[if_pos iB]at hpl;exact vv1
        | false =>
         rw[if_neg iB,AB]at hpl;exact vv1
       ·obtain rfl:m=ts.length:=oQ;rw[At]at hown;obtain⟨n0,r0,hph,hiff⟩:=Ix.places_head HXJ.out;have hft:=Ix.firsts_take HXJ.out;obtain⟨PL,hPL⟩:∃ P,Ix.places ts x=P:=⟨_,rfl⟩;have hmk:Ix.mkp (k:Int) r.id ts x=⟨(k:Int),x,r.id,PL⟩:=by unfold Ix.mkp;rw[hPL]
        rw[hPL]at hown hph;have HMK:=J hmk;clear hmk hPL;obtain⟨aa,ac,rfl,hIA,haa⟩:=Cb hown rfl;have hl0:0<PL.length:=by rw[hph];simp
        obtain⟨ab,ao,rfl,hab,g0⟩:=Kn hIA (k:=0) (x:=n0) (by rw[hph];rfl);rw[BN]at g0;have hS4:=hS3.below hb;have HIA:=J hIA;have habs:=haa _ rfl;clear hIA hown hph;by_cases hmem:x∈ts.take j
        ·rw[if_pos hmem,AB]at hft;have hq0:(n0 == (j:Int))=false:=by rw[beq_eq_false_iff_ne];exact fun e=>hiff.1 e hmem
         have HFT:=J hft;clear hft hiff hmem haa;go_wp2;go_roundw
         case rel=>exact⟨j+1,T2,a2,c2,hlt2,by go_num,hS4,J (by rw[HFT.out];exact hE3.out),oQ,J (hSL.out.below hb)⟩
         case measure=>simp[Aj];omega
        ·rw[if_neg hmem]at hft;have hq0:(n0 == (j:Int))=true:=by rw[beq_iff_eq];exact hiff.2 hmem
         have HFT:=J hft;clear hft hiff hmem haa;have x0c:=(A7 hS4.kx).1 0;obtain⟨r0c,-⟩:=Tx.c1 hS4.kr;have CP:Hid (∀ w',Aa wr.heap.size wr w'->Af A8 145 #[.slice a2 T2.length c2,.agg #[.int .i64 (k:Int),.string ⟨x.toArray⟩,.int .i64 r.id,.slice (A3 ⟨ab,ao,A0⟩) PL.length ac]] w' fun e w''=>∃ v,e=.returned v/\Ix.OwnP w'' w'.heap.size v (Gi T2 ((⟨(k:Int),x,r.id,PL⟩:Eg),A3 ⟨ab,ao,A0⟩,ac))/\Aa w'.heap.size w' w''):=J (fun w' hb'=>r20_put_c T2 ((⟨(k:Int),x,r.id,PL⟩:Eg),A3 ⟨ab,ao,A0⟩,ac) a2 c2 w' (hS4.below hb').ps.fa oQ);go_wp2;go_still_tail 11,oJ;change wpList _ _ _ _ _ wr.drew;have hbq:=zjv;generalize wr.drew=wq at hbq ⊢;have xq:=A7 (hS4.below hbq).kx;go_wp2_with (go_at_call 145;(with_reducible refine (CP.out _ hbq).mono ?_);rintro e w5 ⟨v5,rfl,hown5,hb5x⟩;have hb5:=Ac hbq hb5x;have hS5:=hS4.below hb5;have hAT:Ix.Ats w5 (Gi T2 ((⟨(k:Int),x,r.id,PL⟩:Eg),A3 ⟨ab,ao,A0⟩,ac)):=Ix.Ats.ins hS5.ps.ats (HIA.out.below hb5);obtain⟨va,vc,rfl,hps5,hva5⟩:=Ix.OwnP.ps hown5 hAT;obtain⟨xc,xf,xl⟩:=A7 hS5.kx);have hq9:=hbq.size;have HSL:Hid (SLA (w5.setCell ⟨w.heap.size,0,A0⟩ (.slice va (Gi T2 ((⟨(k:Int),x,r.id,PL⟩:Eg),A3 ⟨ab,ao,A0⟩,ac)).length vc)) (A3 ⟨tb,to_,A0⟩) tc (ts.map fun x=>(⟨x.toArray⟩:ByteArray))):=J (((hSL.out.below hb).below hb5).set (fun _ g hg=>by have:=hta g hg;omega) _ _)
         have HE9:Hid ((Gi T2 ((⟨(k:Int),x,r.id,PL⟩:Eg),A3 ⟨ab,ao,A0⟩,ac)).map (·.1)=(Ix.postsTo r k++(Ek (ts.take (j+1))).map (Ix.mkp k r.id ts)).foldl Ix.ins x0):=J (by
          rw[Ix.insT_map,HFT.out,AY,<- AW];show _=(_++[Ix.mkp k r.id ts x]).foldl Ix.ins x0;rw[Ix.fold_snoc,HMK.out,hE3.out])
         have hl9:(Gi T2 ((⟨(k:Int),x,r.id,PL⟩:Eg),A3 ⟨ab,ao,A0⟩,ac)).length<=T.length+10000000*k+(j+1):=by rw[Ix.insT_len];omega
         have hS9:=hS4.put (B:=wq.heap.size) hb5 oQ hps5 hva5 (fun g hg=>by injection hg with hg;subst hg;show w.heap.size+3<=ab;omega);go_roundw
         case rel=>exact⟨j+1,_,va,vc,hlt2,by go_num,hS9,HE9,hl9,HSL⟩
         case measure=>simp[Aj];omega
     ·obtain rfl:j=ts.length:=oQ;have hN:=hE3.out;rw[At,<- HPT.out]at hN;have HN:=J hN;clear hN hE3;go_wp2;go_roundw
      case rel=>exact⟨k+1,T2,a2,c2,hlt,by go_num,hS3,HN,oQ⟩
      case measure=>simp[Aj];omega
   ·obtain rfl:k=5:=oQ;have hN:=hE.out;rw[<- HA.out]at hN;have HN:=J hN;clear hN hE;obtain⟨xc,xf,xl⟩:=A7 hS'.kx;obtain⟨kc,kf,kl⟩:=A7 hS'.k4;go_wp2;refine Aw (v:=.agg #[.slice a' T'.length c']) OJ rfl ⟨a',c',T',rfl,?_,HN.out,oQ,fun Y hY hf=>hS'.far Y oQ (fun _=>hf),?_⟩
    ·exact hS'.ps.set (hS'.far _ oQ (fun h9=>absurd h9 oQ)) _ _
    ·exact hS'.hb.setCell oW _
namespace Ix
open Rc
structure BldS (w wr:Ab) (T':List PT) (a':Option Aq) (c':Nat):Prop where
 hb:Aa w.heap.size w wr
 k0:wr.heap[w.heap.size]?=A3 (.cells #[.slice A0 0 0] 24 (0,0))
 kx:wr.heap[w.heap.size+1]?=A3 (.cells #[.slice a' T'.length c'] 24 (0,0))
 ps:PsA wr a' c' T'
 far0:Far T' a' w.heap.size
 far1:Far T' a' (w.heap.size+1)
theorem BldS.below {w wr w':Ab}{T':List PT}{a':Option Aq}{c':Nat} (h:BldS w wr T' a' c') (hb:Aa wr.heap.size wr w'):BldS w w' T' a' c' :=
 ⟨Ac h.hb hb,A6 h.k0 hb,A6 h.kx hb,h.ps.below hb,h.far0,h.far1⟩
theorem BldS.size {w wr:Ab}{T':List PT}{a':Option Aq}{c':Nat} (h:BldS w wr T' a' c'):w.heap.size+1<wr.heap.size:=(AA.1 h.kx).1
theorem BldS.put {w wr w':Ab}{T' T2:List PT}{a' a2:Option Aq}{c' c2:Nat} (h:BldS w wr T' a' c') (hb:Aa wr.heap.size wr w') (hp:PsA w' a2 c2 T2) (hf:∀ Y,Y<wr.heap.size->Far T' a' Y->Far T2 a2 Y) :
  BldS w (w'.setCell ⟨w.heap.size+1,0,A0⟩ (.slice a2 T2.length c2)) T2 a2 c2:=by
 have h':=h.below hb;have hs:=h.size;have hs0:∀ k,k≠w.heap.size+1->(w'.setCell ⟨w.heap.size+1,0,A0⟩ (.slice a2 T2.length c2)).heap[k]?=w'.heap[k]?:=fun k hk=>D4 w' ⟨w.heap.size+1,0,A0⟩ _ k hk;refine⟨h'.hb.setCell oZ _,(hs0 _ oQ).trans h'.k0,?_,?_,hf _ oQ h.far0,hf _ oQ h.far1⟩
 ·have:=h'.kx;simp[B5,Dy,this]
 ·exact hp.set (hf _ oQ h.far1) 0 _
end Ix
theorem r20_Build_c (rs:List Rc.Rd) (a:Option Aq) (c:Nat) (w:Ab) (h:Rc.RdA w a c rs) (hn:rs.length<=50) (hM:∀ r∈rs,EY r.fields) :
  Af A8 27 #[.slice a rs.length c] w fun e w'=>(∃ a' c' T',e=.returned (.agg #[.slice a' (Dl T') c'])/\DT w' a' c' T'/\T'.map (·.1)=Ix.build rs/\T'.length<=2500000000/\Aa w.heap.size w w'):=by
 have hcap:=h.cap;obtain⟨W,hW⟩:∃ W,(w.alloc (.cells #[.slice A0 0 0] 24)).alloc (.cells #[.slice A0 0 0] 24)=W:=⟨_,rfl⟩;have hB:=zfd;have hK0:W.heap[w.heap.size]?=A3 (.cells #[.slice A0 0 0] 24 (0,0)):=by rw[<- hW];exact (hp_alloc_lt oZ _).trans (Ae w _)
 have hK1:W.heap[w.heap.size+1]?=A3 (.cells #[.slice A0 0 0] 24 (0,0)):=by rw[<- hW];simpa using Ae (w.alloc (.cells #[.slice A0 0 0] 24)) (.cells #[.slice A0 0 0] 24)
 have hP0:∀ w',DT w' A0 0 []:=fun w'=>⟨⟨Ad _,oZ,0,0,fun h9=>absurd rfl h9,fun j i x u hx=>by simp at hx⟩,fun t ht=>by cases ht⟩;have hfar:∀ Y,Ix.Far [] A0 Y:=fun Y=>⟨fun h9=>absurd rfl h9,fun t ht=>by cases ht⟩;have hS:Ix.BldS w (W.setCell ⟨w.heap.size+1,0,A0⟩ (.slice A0 0 0)) [] A0 0:=(Ix.BldS.mk (T':=[]) hB hK0 hK1 (hP0 _) (hfar _) (hfar _)).put (Ah _ _) (hP0 _) (fun Y _ _=>hfar Y);obtain⟨xc,xf,xl⟩:=A7 hK1;clear hP0 hfar;go_enter Tryz.func27,Tryz.ntmps27;go_wp2;clear hW hK0 hK1 xc xf xl hB;go_loopw [4] (fun i wr=>∃ (k:Nat) (T':List C5) (a':Option Aq) (c':Nat),k<=rs.length/\i=.int .i64 k/\Ix.BldS w wr T' a' c'/\Hid (T'.map (·.1)=Ix.bld rs k)/\T'.length<=50000000*k) (fun i _=>rs.length - (Aj i).toNat)
 case atStart=>exact⟨0,[],A0,0,Am _,rfl,hS,J rfl,Am _⟩
 case round =>
  obtain⟨k,T',a',c',hk,rfl,hS',hE,hTl⟩:=hrel;have hss:=hS'.size;obtain⟨xc,xf,xl⟩:=A7 hS'.kx;obtain⟨kc,kf,kl⟩:=A7 hS'.k0;by_cases hlt:k<rs.length
  ·obtain⟨r,hr⟩:=ziq;have hbs:=Ix.bld_succ hr;have HMr:=J (hM r (AJ hr));have hR:=h.below hS'.hb;have CM:Hid (∀ v,Ix.met rs k r=v->Af A8 73 #[.slice a rs.length c,.int .i64 (k:Int)] wr fun e w''=>e=.returned (.bool v)/\Aa wr.heap.size wr w''):=J (fun v hv=>by rw[<- hv];exact r20_met_c rs a c k r wr hR oQ hr);obtain⟨b,o,fa,fc,rfl,hbl,d0,d1,d2,d3,d4,hF⟩:=h.get hr;have HF:=J (hF.below hS'.hb);replace d0:=A4 hS'.hb d0;replace d1:=A4 hS'.hb d1;replace d2:=A4 hS'.hb d2;replace d3:=A4 hS'.hb d3;replace d4:=A4 hS'.hb d4;clear hF hR hr;have hk0:(0:Int)<=(k:Int):=oQ;have hkn:(k:Int)<(rs.length:Int):=oQ;cases hm:Ix.met rs k r with
   | true =>
    rw[if_pos hm]at hbs;have HN:Hid (T'.map (·.1)=Ix.bld rs (k+1)):=J (hE.out.trans hbs.symm);have HMT:=J hm;clear hbs hm hE;go_wp2_with (go_at_call 73;(with_reducible refine (CM.out true HMT.out).mono ?_);rintro e w2 ⟨rfl,hb2⟩);have hl9:T'.length<=50000000*(k+1):=Au hTl (Nat.mul_le_mul_left _ (Nat.le_succ k));go_roundw
    case rel=>exact⟨k+1,T',a',c',hlt,by go_num,hS'.below hb2,HN,hl9⟩
    case measure=>simp[Aj];omega
   | false =>
    rw[if_neg (by rw[hm];decide)]at hbs;have HMT:=J hm;have HBS:=J hbs;clear hbs hm;go_wp2_with (go_at_call 73;(with_reducible refine (CM.out false HMT.out).mono ?_);rintro e w2 ⟨rfl,hb2⟩;have hS2:=hS'.below hb2;obtain⟨yc,yf,yl⟩:=A7 hS2.kx;have e0:=A4 hb2 d0;have e1:=A4 hb2 d1;have e2:=A4 hb2 d2;have e3:=A4 hb2 d3;have e4:=A4 hb2 d4);go_still_tail 5,oJ;change wpList _ _ _ _ _ w2.drew;have hbq:=(Ah w2.heap.size w2).drew;generalize w2.drew=wq at hbq ⊢;have hS3:=hS2.below hbq;have hq9:=hbq.size;go_wp2_with (go_at_call 74;(with_reducible refine (r20_Add_c T' a' c' r fa fc _ hS3.ps oQ (HF.out.below (Ac hb2 hbq)) HMr.out).mono ?_);rintro e w5 ⟨a2,c2,T2,rfl,hps2,hmap2,hl2,hfar2,hb5⟩;have HMAP:=J hmap2;have hS5:=hS3.below hb5;obtain⟨zc,zf,zl⟩:=A7 hS5.kx;clear hmap2);have HN:Hid (T2.map (·.1)=Ix.bld rs (k+1)):=J (by rw[HMAP.out,HBS.out,hE.out]);have hS9:=hS3.put hb5 hps2 hfar2;have hl9:T2.length<=50000000*(k+1):=oQ;go_roundw
    case rel=>exact⟨k+1,T2,a2,c2,hlt,by go_num,hS9,HN,hl9⟩
    case measure=>simp[Aj];omega
  ·obtain rfl:k=rs.length:=oQ;go_wp2;refine Aw (v:=.agg #[.slice a' T'.length c']) (by simp[results,Tryz.results27,go_sem,kc]) rfl ⟨a',c',T',rfl,?_,hE.out,oQ,?_⟩
   ·exact hS'.ps.set hS'.far0 _ _
   ·exact hS'.hb.setCell oZ _
namespace Ix
open Rc
abbrev OwnI (w':Ab) (B:Nat) (v:Ak) (l:List Int):Prop:=w'.ownsRow B 3 1 v l.length (l.map (B3 .i64))
theorem ownI_snoc {w:Ab}{B:Nat}{v:Ak}{l:List Int}{n:Int} (h:w.ownsRow B 3 1 v (l.length+1) (l.map (B3 .i64)++[.int .i64 n])):OwnI w B v (l++[n]):=by
 unfold OwnI;rw[Ag,AY];exact h
theorem put_drop {xs:List Int}{k:Nat}{x:Int} (n:Int) (h:xs[k]?=A3 x):D1 Bf (xs.drop k) n=if x<n then x::D1 Bf (xs.drop (k+1)) n else if x=n then x::xs.drop (k+1) else n::x::xs.drop (k+1):=by
 rw[drop_cons h,D1];unfold Bf;simp only[decide_eq_true_eq]
theorem puts_snoc (l:List Int) (x:Int):BP Bf (l++[x])=D1 Bf (BP Bf l) x:=by
 unfold BP;rw[Ha];rfl
theorem put_len (n:Int):∀ xs:List Int,(D1 Bf xs n).length<=xs.length+1
 | []=>by simp[D1]
 | y::r=>by
  have:=put_len n r;unfold D1;split
  ·simp;omega
  ·split <;> simp
theorem foldl_put_len:∀ (l acc:List Int),(l.foldl (D1 Bf) acc).length<=acc.length+l.length
 | [],acc=>Ad _
 | x::l,acc=>by
  have h1:=foldl_put_len l (D1 Bf acc x);have h2:=put_len x acc;rw[List.foldl_cons,AH];omega
theorem puts_len (l:List Int):(BP Bf l).length<=l.length:=by
 have:=foldl_put_len l [];unfold BP;simpa using this
def idsT (p:Post->Bool) (T:List PT):List Int:=(T.filter fun t=>p t.1).map fun t=>t.1.id
theorem idsT_map (p:Post->Bool) (T:List PT):((T.map (·.1)).filter p).map (·.id)=idsT p T:=by
 unfold idsT;rw[List.filter_map,List.map_map];rfl
theorem idsT_take {p:Post->Bool}{T:List PT}{k:Nat}{t:PT} (h:T[k]?=A3 t):idsT p (T.take (k+1))=idsT p (T.take k)++(if p t.1=true then [t.1.id] else []):=by
 unfold idsT;rw[take_snoc h,CE,AY];congr 1;by_cases hp:p t.1=true <;> simp[hp]
theorem idsT_len (p:Post->Bool) (T:List PT):(idsT p T).length<=T.length:=by
 unfold idsT;rw[Ax];exact BB _ _
def wordP (f:Int) (s:By) (p:Post):Bool:=decide (p.fld=f)&&(p.word == s)
def prefP (f:Int) (s:By) (p:Post):Bool:=!(s == [])&&(decide (p.fld=f)&&begP s p.word)
theorem begP_short {s w:By} (h:w.length<s.length):begP s w=false:=by
 unfold begP;rw[List.take_of_length_le oQ,beq_eq_false_iff_ne];intro e;rw[e]at h;omega
theorem word_T (T:List PT) (f:Int) (s:By):word (T.map (·.1)) f s=BP Bf (idsT (wordP f s) T):=by
 unfold word;rw[<- idsT_map];rfl
theorem prefix_T (T:List PT) (f:Int) (s:By):prefix_ (T.map (·.1)) f s=BP Bf (idsT (prefP f s) T):=by
 unfold prefix_;rw[<- idsT_map];rfl
end Ix
theorem yrg (h:P:=by
 go_wp2_with (at_builtin;go_must (refine wpList_append_sl rfl _ _ 35 rfl w.heap.size 3 i0 _ 1 8 Bk HI.out hz0 hz1 hz2 rfl oX _ (L.length) _ rfl (hown.alloc _) (A3 ⟨_,0,A0⟩) 1 1 [.int .i64 y] rfl rfl oF oD oG aJ aW oW ?_);intro v7 w7 hown7 hg7 hnil7);go_roundw
 case rel=>exact⟨k+1,L++[y],true,hlt,by go_num,rfl,HN,by simp;omega,Ix.ownI_snoc hown7,(hb.alloc hbs _).grown hg7 oW (fun j hj=>(hown.lt j hj).1)⟩
 case measure=>simp[Aj];omega):P:=h
theorem r20_insert_c (xs:List Int) (n:Int) (a:Option Aq) (c:Nat) (w:Ab) (h:Ix.IA w a c xs) (hn:xs.length<=1000000000000) :
  Af A8 154 #[.slice a xs.length c,.int .i64 n] w fun e w'=>∃ v,e=.returned v/\Ix.OwnI w' w.heap.size v (D1 Bf xs n)/\Aa w.heap.size w w':=by
 obtain⟨i0,hi0,hz0,hz1,hz2⟩:=zhb;have HI:=J hi0;clear hi0;have hcap:=h.cap;have HS:=J h;clear h;go_enter Tryz.func154,Tryz.ntmps154;go_wp2;go_loopw [5,6,7] (fun v d i wr=>∃ (k:Nat) (L:List Int) (d0:Bool),k<=xs.length/\i=.int .i64 k/\d=.bool d0/\Hid (L++(if d0=true then xs.drop k else D1 Bf (xs.drop k) n)=D1 Bf xs n)/\L.length<=2*k/\Ix.OwnI wr w.heap.size v L/\Aa w.heap.size w wr) (fun _ _ i _=>xs.length - (Aj i).toNat)
 case atStart=>exact⟨0,[],false,Am _,rfl,rfl,J oZ,oZ,AI _ _ _ _,Ah _ _⟩
 case round =>
  obtain⟨k,L,d,hk,rfl,rfl,hE,hL,hown,hb⟩:=hrel;have hbs:=hb.size;have HK:Hid (L.length<=2000000000000):=J oQ;by_cases hlt:k<xs.length
  ·obtain⟨y,hy⟩:=zir;have hpd:=Ix.put_drop n hy;have hdr:=Hv hy;obtain⟨b,o,rfl,hbl,f0⟩:=Kn HS.out hy;have e0:=A4 hb f0;clear hy;cases d with
   | true =>
    have HN:Hid ((L++[y])++(if true=true then xs.drop (k+1) else D1 Bf (xs.drop (k+1)) n)=D1 Bf xs n):=J (by
     rw[<- hE.out,if_pos rfl,if_pos rfl,hdr,AW];rfl)
    clear hdr hE hpd;cases hq:(y == n)
    all_goals
     exact yrg
   | false =>
    by_cases h1:y<n
    ·have HN:Hid ((L++[y])++(if false=true then xs.drop (k+1) else D1 Bf (xs.drop (k+1)) n)=D1 Bf xs n):=J (by
      rw[<- hE.out,if_neg oX,if_neg oX,hpd,if_pos h1,AW];rfl)
     have t1:(y == n)=false:=by rw[beq_eq_false_iff_ne];omega
     have t2:decide (n<y)=false:=by simp;omega
     clear hdr hE hpd h1;go_wp2_with (at_builtin;go_must (refine wpList_append_sl rfl _ _ 35 rfl w.heap.size 3 i0 _ 1 8 Bk HI.out hz0 hz1 hz2 rfl oX _ (L.length) _ rfl (hown.alloc _) (A3 ⟨_,0,A0⟩) 1 1 [.int .i64 y] rfl rfl oF oD oG aJ aW oW ?_);intro v7 w7 hown7 hg7 hnil7);go_roundw
     case rel=>exact⟨k+1,L++[y],false,hlt,by go_num,rfl,HN,by simp;omega,Ix.ownI_snoc hown7,(hb.alloc hbs _).grown hg7 oW (fun j hj=>(hown.lt j hj).1)⟩
     case measure=>simp[Aj];omega
    ·by_cases h2:y=n
     ·have HN:Hid ((L++[y])++(if true=true then xs.drop (k+1) else D1 Bf (xs.drop (k+1)) n)=D1 Bf xs n):=J (by
       rw[<- hE.out,if_pos rfl,if_neg oX,hpd,if_neg h1,if_pos h2,AW];rfl)
      have t1:(y == n)=true:=by rw[beq_iff_eq];exact h2
      clear hdr hE hpd h1 h2;exact yrg
     ·have HN:Hid (((L++[n])++[y])++(if true=true then xs.drop (k+1) else D1 Bf (xs.drop (k+1)) n)=D1 Bf xs n):=J (by
       rw[<- hE.out,if_pos rfl,if_neg oX,hpd,if_neg h1,if_neg h2,AW,AW];rfl)
      have t1:(y == n)=false:=by rw[beq_eq_false_iff_ne];exact h2
      have t2:decide (n<y)=true:=by simp;omega
      have HK2:Hid ((L++[n]).length<=2000000000001):=J zrz;clear hdr hE hpd h1 h2
      go_wp2_with (first
       |(at_builtin;refine wpList_append_sl rfl _ _ 35 rfl w.heap.size 3 i0 _ 1 8 Bk HI.out hz0 hz1 hz2 rfl oX _ ((L++[n]).length) _ rfl ((Ix.ownI_snoc hown7).alloc _) (A3 ⟨_,0,A0⟩) 1 1 [.int .i64 y] rfl rfl oF oD oG zsz (by have:=HK2.out;omega) oW ?_;intro v8 w8 hown8 hg8 hnil8;have hb8:Aa w.heap.size w w8:=(hb7.alloc hb7.size _).grown hg8 oW (fun j hj=>(hown7.lt j hj).1))
       |(at_builtin;go_must (refine wpList_append_sl rfl _ _ 35 rfl w.heap.size 3 i0 _ 1 8 Bk HI.out hz0 hz1 hz2 rfl oX _ (L.length) _ rfl (hown.alloc _) (A3 ⟨_,0,A0⟩) 1 1 [.int .i64 n] rfl rfl oF oD oG aJ aW oW ?_);intro v7 w7 hown7 hg7 hnil7;have hb7:Aa w.heap.size w w7:=(hb.alloc hbs _).grown hg7 oW (fun j hj=>(hown.lt j hj).1);have hb7s:=hb7.size;have p0:=A4 hb7 f0))
      go_roundw
      case rel=>exact⟨k+1,(L++[n])++[y],true,hlt,by go_num,rfl,HN,by simp;omega,Ix.ownI_snoc hown8,hb8⟩
      case measure=>simp[Aj];omega
  ·obtain rfl:k=xs.length:=oQ;cases d with
   | true =>
    have HN:=J hE.out;rw[if_pos rfl,Dd,AB]at HN;go_wp2;go_ret;exact⟨_,rfl,by rw[<- HN.out];exact hown,hb⟩
   | false =>
    have HN:=J hE.out;rw[if_neg oX,Dd,D1]at HN;go_wp2_with (at_builtin;go_must (refine wpList_append_sl rfl _ _ 35 rfl w.heap.size 3 i0 _ 1 8 Bk HI.out hz0 hz1 hz2 rfl oX _ (L.length) _ rfl (hown.alloc _) (A3 ⟨_,0,A0⟩) 1 1 [.int .i64 n] rfl rfl oF oD oG aJ aW oW ?_);intro v7 w7 hown7 hg7 hnil7);go_ret;exact⟨_,rfl,by rw[<- HN.out];exact Ix.ownI_snoc hown7,(hb.alloc hbs _).grown hg7 oW (fun j hj=>(hown.lt j hj).1)⟩
theorem y6y (h:P:=by
 clear hit hP;go_wp2_with (go_at_call 154;(with_reducible refine (r20_insert_c L y.id oa oc _ HIO.out hpl3).mono ?_);rintro e w5 ⟨v5,rfl,hown5,hb5⟩);go_roundw
 case rel=>exact⟨k+1,hlt,by go_num,by rw[HP.out];exact DE hown5 hbs,Ac hb hb5⟩
 case measure=>simp[Aj];omega):P:=h
theorem ybu (h:P:=by
 clear hit hP;go_wp2;go_roundw
 case rel=>exact⟨k+1,hlt,by go_num,by rw[HP.out];exact hown,hb⟩
 case measure=>simp[Aj];omega):P:=h
theorem yp3 (h:P:=by
 rw[if_neg qV,AB]at hit;have HP:Hid (BP Bf (Ix.idsT (Ix.wordP f s) (T.take (k+1)))=L):=J (by rw[hit,HL.out]);exact ybu):P:=h
theorem yy5 (h:P:=by
 obtain rfl:k=T.length:=oQ;rw[At]at hown;go_wp2;go_ret;exact⟨_,rfl,DE hown hbB,Ac hB hb⟩):P:=h
theorem r20_Word_c (T:List C5) (a:Option Aq) (c:Nat) (f:Int) (s:GR) (w:Ab) (h:DT w a c T) (hn:T.length<=1000000000000)  :
  Af A8 89 #[.agg #[.slice a T.length c],.int .i64 f,.string ⟨s.toArray⟩] w fun e w'=>∃ v,e=.returned v/\Ix.OwnI w' w.heap.size v (BP Bf (Ix.idsT (Ix.wordP f s) T))/\Aa w.heap.size w w':=by
 have hcap:=h.fa.cap;obtain⟨W,hW,hB,c0⟩:=zcy;have HS:=J (h.below hB);clear h;have hbB:=hB.size;go_enter Tryz.func89,Tryz.ntmps89;go_wp2;clear hW;go_loopw [7,8] (fun v i wr=>∃ (k:Nat),k<=T.length/\i=.int .i64 k/\Ix.OwnI wr W.heap.size v (BP Bf (Ix.idsT (Ix.wordP f s) (T.take k)))/\Aa W.heap.size W wr) (fun _ i _=>T.length - (Aj i).toNat)
 case atStart=>exact⟨0,Am _,rfl,AI _ _ _ _,Ah _ _⟩
 case round =>
  obtain⟨k,hk,rfl,hown,hb⟩:=hrel;have hbs:=hb.size;replace c0:=A4 hb c0;by_cases hlt:k<T.length
  ·obtain⟨⟨y,ya,yc⟩,hy⟩:=zaz;have hit:=Ix.idsT_take (p:=Ix.wordP f s) hy;obtain⟨b,o,rfl,hbl,g0,g1,g2,g3,_⟩:=zkd;simp only at g0 g1 g2 g3 hit;replace g0:=A4 hb g0;replace g1:=A4 hb g1;replace g2:=A4 hb g2;have hpl:=Ix.puts_len (Ix.idsT (Ix.wordP f s) (T.take k));have hpl2:=Ix.idsT_len (Ix.wordP f s) (T.take k);rw[Az]at hpl2;obtain⟨L,hL⟩:∃ L,BP Bf (Ix.idsT (Ix.wordP f s) (T.take k))=L:=⟨_,rfl⟩;have HL:=J hL;rw[hL]at hown hpl;have hpl3:L.length<=1000000000000:=oQ;obtain⟨oa,oc,rfl,hio,_⟩:=Cb hown rfl;have HIO:=J hio;clear hio hpl hpl2 hL hy;by_cases hx0:¬ y.fld=f
   ·have t0:(y.fld == f)=false:=by simpa using hx0
    have hP:Ix.wordP f s y=false:=by unfold Ix.wordP;simp[hx0]
    clear hx0;exact yp3
   have t0:(y.fld == f)=true:=by simpa using hx0
   by_cases hx1:¬ y.word=s
   ·have t1:(y.word == s)=false:=by simpa using hx1
    have hP:Ix.wordP f s y=false:=by unfold Ix.wordP;simp[hx1]
    clear hx0 hx1;exact yp3
   have t1:(y.word == s)=true:=by simpa using hx1
   have hP:Ix.wordP f s y=true:=by unfold Ix.wordP;simp at hx0 hx1;simp[hx0,hx1]
   clear hx0 hx1;rw[if_pos hP]at hit;have HP:Hid (BP Bf (Ix.idsT (Ix.wordP f s) (T.take (k+1)))=D1 Bf L y.id):=J (by rw[hit,Ix.puts_snoc,HL.out]);exact y6y
  ·exact yy5
theorem yw2 (h:P:=by
 rw[if_neg qV,AB]at hit;have HP:Hid (BP Bf (Ix.idsT (Ix.prefP f s) (T.take (k+1)))=L):=J (by rw[hit,HL.out]);exact ybu):P:=h
theorem r20_Prefix_c (T:List C5) (a:Option Aq) (c:Nat) (f:Int) (s:GR) (w:Ab) (h:DT w a c T) (hn:T.length<=1000000000000) (hw:∀ t∈T,t.1.word.length<=140737488351232) :
  Af A8 90 #[.agg #[.slice a T.length c],.int .i64 f,.string ⟨s.toArray⟩] w fun e w'=>∃ v,e=.returned v/\Ix.OwnI w' w.heap.size v (BP Bf (Ix.idsT (Ix.prefP f s) T))/\Aa w.heap.size w w':=by
 have hcap:=h.fa.cap;obtain⟨W,hW,hB,c0⟩:=zcy;have HS:=J (h.below hB);clear h;have hbB:=hB.size;go_enter Tryz.func90,Tryz.ntmps90;go_wp2;clear hW;go_loopw [7,8] (fun v i wr=>∃ (k:Nat),k<=T.length/\i=.int .i64 k/\Ix.OwnI wr W.heap.size v (BP Bf (Ix.idsT (Ix.prefP f s) (T.take k)))/\Aa W.heap.size W wr) (fun _ i _=>T.length - (Aj i).toNat)
 case atStart=>exact⟨0,Am _,rfl,AI _ _ _ _,Ah _ _⟩
 case round =>
  obtain⟨k,hk,rfl,hown,hb⟩:=hrel;have hbs:=hb.size;replace c0:=A4 hb c0;by_cases hlt:k<T.length
  ·obtain⟨⟨y,ya,yc⟩,hy⟩:=zaz;have hit:=Ix.idsT_take (p:=Ix.prefP f s) hy;obtain⟨b,o,rfl,hbl,g0,g1,g2,g3,_⟩:=zkd;simp only at g0 g1 g2 g3 hit;replace g0:=A4 hb g0;replace g1:=A4 hb g1;replace g2:=A4 hb g2;have hpl:=Ix.puts_len (Ix.idsT (Ix.prefP f s) (T.take k));have hpl2:=Ix.idsT_len (Ix.prefP f s) (T.take k);rw[Az]at hpl2;obtain⟨L,hL⟩:∃ L,BP Bf (Ix.idsT (Ix.prefP f s) (T.take k))=L:=⟨_,rfl⟩;have HL:=J hL;rw[hL]at hown hpl;have hpl3:L.length<=1000000000000:=oQ;obtain⟨oa,oc,rfl,hio,_⟩:=Cb hown rfl;have HIO:=J hio;have hwl:=hw _ (AJ hy);simp only at hwl;clear hio hpl hpl2 hL hy;by_cases hx0:s=[]
   ·have t0:(s == [])=true:=by simpa using hx0
    have hP:Ix.prefP f s y=false:=by unfold Ix.prefP;simp[hx0]
    clear hx0;exact yw2
   have t0:(s == [])=false:=by simpa using hx0
   by_cases hx1:¬ y.fld=f
   ·have t1:(y.fld == f)=false:=by simpa using hx1
    have hP:Ix.prefP f s y=false:=by unfold Ix.prefP;simp[hx1]
    clear hx0 hx1;exact yw2
   have t1:(y.fld == f)=true:=by simpa using hx1
   by_cases hx2:y.word.length<s.length
   ·have t2:decide (s.length<=y.word.length)=false:=by simpa using hx2
    have hP:Ix.prefP f s y=false:=by unfold Ix.prefP;rw[Ix.begP_short hx2];simp
    clear hx0 hx1 hx2;exact yw2
   have t2:decide (s.length<=y.word.length)=true:=by simpa using hx2
   have hle:(s.length:Int)<=(y.word.length:Int):=oQ;have hle2:s.length<=y.word.length:=oQ;by_cases hx3:¬ y.word.take s.length=s
   ·have t3:(((⟨y.word.toArray⟩:ByteArray).extract 0 s.length).toList == s)=false:=by rw[AG,DV];simpa using hx3
    have hP:Ix.prefP f s y=false:=by unfold Ix.prefP Ix.begP;simp[hx3]
    clear hx0 hx1 hx2 hx3;exact yw2
   have t3:(((⟨y.word.toArray⟩:ByteArray).extract 0 s.length).toList == s)=true:=by rw[AG,DV];simpa using hx3
   have hP:Ix.prefP f s y=true:=by unfold Ix.prefP Ix.begP;simp at hx1 hx3;simp[hx0,hx1,hx3]
   clear hx0 hx1 hx2 hx3;rw[if_pos hP]at hit;have HP:Hid (BP Bf (Ix.idsT (Ix.prefP f s) (T.take (k+1)))=D1 Bf L y.id):=J (by rw[hit,Ix.puts_snoc,HL.out]);exact y6y
  ·exact yy5
namespace Ix
open Rc
def atP (f:Int) (s:By) (id start:Int) (far:Nat) (p:Post):Bool:=decide (p.fld=f)&&(p.word == s)&&(p.id == id)&&p.at_.any fun n=>decide (Dr.wrap (n - far)=start)
theorem at_T (T:List PT) (f:Int) (s:By) (id start:Int) (far:Nat):at_ (T.map (·.1)) f s id start far=T.any fun t=>atP f s id start far t.1:=by
 unfold at_;rw[List.any_map];rfl
def phrP (x:List Post) (f:Int) (s0:By) (l:List By) (p:Post):List Int:=if wordP f s0 p=true then (p.at_.filter fun n=>folF x f p.id n 1 l).map fun _=>p.id else []
def phrT (x:List Post) (f:Int) (s0:By) (l:List By) (T:List PT):List Int:=T.flatMap fun t=>phrP x f s0 l t.1
theorem phr_T (T:List PT) (f:Int) (s0:By) (l:List By):phr (T.map (·.1)) f (s0::l)=phrT (T.map (·.1)) f s0 l T:=by
 have gen:∀ (x:List Post) (U:List PT),((U.map (·.1)).filter fun p=>decide (p.fld=f)&&(p.word == s0)).flatMap (fun p=>(p.at_.filter fun n=>folF x f p.id n 1 l).map fun _=>p.id)=U.flatMap fun t=>phrP x f s0 l t.1:=by
  intro x U
  induction U with
  | nil=>rfl
  | cons t U ih =>
   rw[List.map_cons,CU,<- ih];by_cases hp:wordP f s0 t.1=true
   ·rw[Fm (by exact hp),CU,phrP,if_pos hp]
   ·rw[Fp (by exact hp),phrP,if_neg hp,C8]
 exact gen _ _
theorem phrT_take {x:List Post}{f:Int}{s0:By}{l:List By}{T:List PT}{k:Nat}{t:PT} (h:T[k]?=A3 t):phrT x f s0 l (T.take (k+1))=phrT x f s0 l (T.take k)++phrP x f s0 l t.1:=by
 unfold phrT;rw[take_snoc h,AR];simp
theorem phrP_len (x:List Post) (f:Int) (s0:By) (l:List By) (p:Post):(phrP x f s0 l p).length<=p.at_.length:=by
 unfold phrP;split
 ·rw[Ax];exact BB _ _
 ·exact Am _
theorem phrT_len {x:List Post}{f:Int}{s0:By}{l:List By}:∀ {T:List PT},(∀ t∈T,t.1.at_.length<=9223372036854775807)->(phrT x f s0 l T).length<=9223372036854775807*T.length
 | [],_=>Am _
 | t::T,h=>by
  have ih:=phrT_len (x:=x) (f:=f) (s0:=s0) (l:=l) (T:=T) (fun u hu=>h u (BH _ hu));have h1:=h t (B8 ..);have h2:=phrP_len x f s0 l t.1;unfold phrT at ih ⊢;rw[CU,Ag,AH];omega
theorem phrT_mem {x:List Post}{f:Int}{s0:By}{l:List By}{T:List PT}{k:Nat}{z:Int} (h:z∈phrT x f s0 l (T.take k)):∃ t∈T,t.1.id=z:=by
 unfold phrT at h;obtain⟨t,ht,hz⟩:=List.mem_flatMap.1 h;refine⟨t,Dc ht,?_⟩;unfold phrP at hz;split at hz
 ·obtain⟨_,_,e⟩:=BG.1 hz;exact e
 ·cases hz
theorem nodup_len {α:Type}:∀ {a b:List α},a.Nodup->(∀ z∈a,z∈b)->a.length<=b.length
 | [],_,_,_=>Am _
 | x::r,b,hn,hs=>by
  obtain⟨b1,b2,rfl⟩:=List.append_of_mem (hs x B8);rw[List.nodup_cons]at hn
  have:=nodup_len (a:=r) (b:=b1++b2) hn.2 fun z hz=>by
   have h1:=hs z (BH _ hz);rw[AQ,List.mem_cons]at h1;rcases h1 with h1 | h1 | h1
   ·exact List.mem_append.2 (.inl h1)
   ·rw[h1]at hz;exact absurd hz hn.1
   ·exact List.mem_append.2 (.inr h1)
  simp only[Ag,AH]at *;omega
theorem puts_sub {T:List PT}{l:List Int} (h:∀ z∈l,∃ t∈T,t.1.id=z):(BP Bf l).length<=T.length:=by
 have h1:(BP Bf l).Nodup:=(Cp.puts_asc Cp.ordI l).imp fun {a b} h9 e=>by rw[e,Cp.ordI.irr]at h9;cases h9
 have h2:=nodup_len (b:=T.map fun t=>t.1.id) h1 fun z hz=>by
  obtain⟨t,ht,e⟩:=h z ((Cp.puts_mem _ _ _).1 hz);exact BG.2 ⟨t,ht,e⟩
 simpa using h2
theorem folF_cons (x:List Post) (f id start:Int) (j:Nat) (s:By) (l:List By):folF x f id start j (s::l)=(at_ x f s id start j&&folF x f id start (j+1) l):=rfl
theorem filter_take {p:Int->Bool}{l:List Int}{k:Nat}{n id:Int} (h:l[k]?=A3 n):((l.take (k+1)).filter p).map (fun _=>id)=((l.take k).filter p).map (fun _=>id)++(if p n=true then [id] else []):=by
 rw[take_snoc h,CE,AY];congr 1;by_cases hp:p n=true <;> simp[hp]
end Ix
theorem ye7 (h:P:=by
 go_wp2;go_roundw
 case rel=>exact⟨k+1,hlt,by go_num,HN,hw1⟩
 case measure=>simp[Aj];omega):P:=h
theorem ysk (h:P:=by
 have HN:Hid ((T.drop (k+1)).any (fun t=>Ix.atP f s id start far t.1)=T.any (fun t=>Ix.atP f s id start far t.1)):=J (by rw[<- HE.out,hP,Jv]);clear hP;exact ye7):P:=h
theorem r20_at_c (T:List C5) (a:Option Aq) (c:Nat) (f:Int) (s:GR) (id start:Int) (far:Nat) (w:Ab) (h:DT w a c T) (hn:T.length<=1000000000000) :
  Af A8 155 #[.agg #[.slice a T.length c],.int .i64 f,.string ⟨s.toArray⟩,.int .i64 id,.int .i64 start,.int .i64 far] w fun e w'=>e=.returned (.bool (Ix.at_ (T.map (·.1)) f s id start far))/\Aa w.heap.size w w':=by
 have hcap:=h.fa.cap;obtain⟨W,hW,hB,c0⟩:=zcy;have HS:=J (h.below hB);clear h;rw[Ix.at_T];go_enter Tryz.func155,Tryz.ntmps155;go_wp2;clear hW;go_loopw [13] (fun i wr=>∃ (k:Nat),k<=T.length/\i=.int .i64 k/\Hid ((T.drop k).any (fun t=>Ix.atP f s id start far t.1)=T.any (fun t=>Ix.atP f s id start far t.1))/\Aa W.heap.size W wr) (fun i _=>T.length - (Aj i).toNat)
 case atStart=>exact⟨0,Am _,rfl,J rfl,Ah _ _⟩
 case round =>
  obtain⟨k,hk,rfl,hE,hb⟩:=hrel;have hbs:=hb.size;replace c0:=A4 hb c0;by_cases hlt:k<T.length
  ·have hdr:=hE.out;obtain⟨⟨y,ya,yc⟩,hy⟩:=zaz;obtain⟨b,o,rfl,hbl,g0,g1,g2,g3,hat⟩:=zkd;simp only at g0 g1 g2 g3 hat;replace g0:=A4 hb g0;replace g1:=A4 hb g1;replace g2:=A4 hb g2;replace g3:=A4 hb g3;have HAT:=J (hat.below hb);clear hat;rw[Hv hy,Lh]at hdr;simp only at hdr;have HE:=J hdr;clear hdr hE hy;obtain⟨W1,hW1,hb1,z0,z1,z2,z3⟩:=zbd;have HA1:=J (HAT.out.below hb1);have hpc:=HAT.out.cap;have hpm:=HAT.out.max;unfold maxLen at hpm;have hw1:=Ac hb hb1;by_cases hx0:¬ y.fld=f
   ·have t0:(y.fld != f)=true:=by simpa using hx0
    have hP:Ix.atP f s id start far y=false:=by unfold Ix.atP;simp[hx0]
    clear hx0;exact ysk
   have t0:(y.fld != f)=false:=by simpa using hx0
   by_cases hx1:¬ y.word=s
   ·have t1:(y.word == s)=false:=by simpa using hx1
    have hP:Ix.atP f s id start far y=false:=by unfold Ix.atP;simp[hx1]
    clear hx0 hx1;exact ysk
   have t1:(y.word == s)=true:=by simpa using hx1
   by_cases hx2:¬ y.id=id
   ·have t2:(y.id != id)=true:=by simpa using hx2
    have hP:Ix.atP f s id start far y=false:=by unfold Ix.atP;simp[hx2]
    clear hx0 hx1 hx2;exact ysk
   have t2:(y.id != id)=false:=by simpa using hx2
   have hP:Ix.atP f s id start far y=y.at_.any fun n=>decide (Dr.wrap (n - far)=start):=by
    simp only[Decidable.not_not]at hx0 hx1 hx2;unfold Ix.atP;simp[hx0,hx1,hx2]
   have HP:=J hP;clear hP hx0 hx1 hx2;go_wp2;clear hW1;go_loop [15] (fun i=>∃ (m:Nat),m<=y.at_.length/\i=.int .i64 m/\Hid ((y.at_.drop m).any (fun n=>decide (Dr.wrap (n - far)=start))=y.at_.any (fun n=>decide (Dr.wrap (n - far)=start)))) (fun i=>y.at_.length - (Aj i).toNat)
   case atStart=>exact⟨0,Am _,rfl,J rfl⟩
   case round =>
    obtain⟨m,hm,rfl,hA⟩:=hrel;by_cases hlt2:m<y.at_.length
    ·obtain⟨n,hn2⟩:=zmw;have hA2:=hA.out;rw[Hv hn2,Lh]at hA2;obtain⟨pb,po,rfl,hpb,p0⟩:=Kn HA1.out hn2;clear hn2 hA;by_cases hq:Dr.wrap (n - far)=start
     ·rw[decide_eq_true hq,K4]at hA2;have HT:Hid (T.any (fun t=>Ix.atP f s id start far t.1)=true):=J (by rw[<- HE.out,HP.out,<- hA2,K4]);have t5:(wrap64 (n - far) == start)=true:=by rw[<- IntWalk.i64_left];simpa using hq
      clear hA2 hq;go_wp2;go_ret;exact⟨by rw[HT.out];rfl,Ac hB hw1⟩
     ·rw[decide_eq_false hq,Jv]at hA2;have HN:=zla;have t5:(wrap64 (n - far) == start)=false:=by rw[<- IntWalk.i64_left];simpa using hq
      clear hA2 hq;go_wp2;go_round
      case rel=>exact⟨m+1,hlt2,by go_num,HN⟩
      case measure=>simp[Aj];omega
    ·obtain rfl:m=y.at_.length:=oQ;have hA2:=hA.out;rw[Dd]at hA2;have HN:Hid ((T.drop (k+1)).any (fun t=>Ix.atP f s id start far t.1)=T.any (fun t=>Ix.atP f s id start far t.1)):=J (by rw[<- HE.out,HP.out,<- hA2,List.any_nil,Jv]);clear hA2 hA;exact ye7
  ·obtain rfl:k=T.length:=oQ;have hN:=hE.out;rw[Dd]at hN;have HN:=J hN;clear hN hE;go_wp2;go_ret;exact⟨by rw[<- HN.out];rfl,Ac hB hb⟩
theorem ycd (h:P:=by
 go_enter Tryz.func91,Tryz.ntmps91;go_wp2;clear hW;go_loop [7,8] (fun v i=>v=.slice A0 0 0/\i=.int .i64 0) (fun _ _=>0)
 case atStart=>exact⟨rfl,rfl⟩
 case round =>
  obtain⟨rfl,rfl⟩:=hrel;go_wp2;go_ret;exact⟨.slice A0 0 0,rfl,AI _ _ _ _,hB⟩):P:=h
theorem r20_Phrase_nil (T:List C5) (a:Option Aq) (c:Nat) (f:Int) (wa:Option Aq) (wc:Nat) (w:Ab) (h:DT w a c T) :
  Af A8 91 #[.agg #[.slice a T.length c],.int .i64 f,.slice wa 0 wc] w fun e w'=>∃ v,e=.returned v/\Ix.OwnI w' w.heap.size v []/\Aa w.heap.size w w':=by
 have hcap:=h.fa.cap;obtain⟨W,hW,hB,c0⟩:=zcy;rcases Nat.eq_zero_or_pos T.length with h0 | h0
 ·have d0:decide (0<T.length)=false:=by rw[h0];rfl
  clear h0;exact ycd
 ·have d0:decide (0<T.length)=true:=by simpa using h0
  exact ycd
theorem yku (h:P:=by
 have HA9:Hid (L++((y.at_.take (m+1)).filter fun n=>GT X f y.id n 1 l).map (fun _=>y.id)=A):=J (by rw[HFT.out,<- hE2,if_neg oX,AB]);clear hE2 hE;go_wp2;go_roundw
 case rel=>exact⟨m+1,hlt2,by go_num,by rw[HA9.out];exact hown4,hb5⟩
 case measure=>simp[Aj];omega):P:=h
theorem y8k (h:P:=by
 go_wp2;clear hW1;go_quiet (fail);have hbq:=DP (Ah W1.heap.size W1) nq;go_wp2;go_roundw
 case rel=>exact⟨k+1,hlt,by go_num,by rw[HP.out];exact B4 hown1 hbq,Ac hw1 hbq⟩
 case measure=>simp[Aj];omega):P:=h
theorem r20_Phrase_some (T:List C5) (a:Option Aq) (c:Nat) (f:Int) (s0:GR) (l:List GR) (wa:Option Aq) (wc:Nat) (w:Ab) (h:DT w a c T) (hn:T.length<=2500000000) (hat:∀ t∈T,t.1.at_.length<=9223372036854775807) (hw:SLA w wa wc ((s0::l).map fun x=>(⟨x.toArray⟩:ByteArray))) :
  Af A8 91 #[.agg #[.slice a T.length c],.int .i64 f,.slice wa (s0::l).length wc] w fun e w'=>∃ v,e=.returned v/\Ix.OwnI w' w.heap.size v (BP Bf (Ix.phrT (T.map (·.1)) f s0 l T))/\Aa w.heap.size w w':=by
 have hcap:=h.fa.cap;obtain⟨ws,hws⟩:∃ ws,s0::l=ws:=⟨_,rfl⟩;have hw0:0<ws.length:=by rw[<- hws];simp
 have hd0:decide (0<ws.length)=true:=by simpa using hw0
 have HD:Hid (∀ x id n,GT x f id n 1 (ws.drop 1)=GT x f id n 1 l):=J (fun _ _ _=>by rw[<- hws];rfl);rw[hws]at hw ⊢;have hwcap:=hw.cap;have hwmax:=hw.max;rw[Ax]at hwcap;unfold maxLen at hwmax;obtain⟨W,hW,hB,c0⟩:=zcy;obtain⟨wb,wo,rfl,hwb,hwat⟩:=(hw.below hB).row (by intro e;rw[List.map_eq_nil_iff]at e;rw[e]at hw0;simp at hw0);have w0:W.cell? ⟨wb,wo,A0⟩=A3 (.string ⟨s0.toArray⟩):=hwat 0 _ (by rw[<- hws];rfl);have HWAT:Hid (∀ (j:Nat) x,ws[j]?=A3 x->W.cell? ⟨wb,wo+j,A0⟩=A3 (.string ⟨x.toArray⟩)):=J (fun j x hx=>hwat j _ yJ);have HS:=J (h.below hB);clear h;have HATL:=J hat;have hbB:=hB.size;obtain⟨X,hX⟩:∃ X,T.map (·.1)=X:=⟨_,rfl⟩;rw[hX];have HX:=J hX;clear hat hws hwat hX hw;go_enter Tryz.func91,Tryz.ntmps91;go_wp2;clear hW;go_loopw [7,8] (fun v i wr=>∃ (k:Nat),k<=T.length/\i=.int .i64 k/\Ix.OwnI wr W.heap.size v (BP Bf (Ix.phrT X f s0 l (T.take k)))/\Aa W.heap.size W wr) (fun _ i _=>T.length - (Aj i).toNat)
 case atStart=>exact⟨0,Am _,rfl,AI _ _ _ _,Ah _ _⟩
 case round =>
  obtain⟨k,hk,rfl,hown,hb⟩:=hrel;have hbs:=hb.size;replace c0:=A4 hb c0;replace w0:=A4 hb w0;by_cases hlt:k<T.length
  ·have hkd:decide (k<T.length)=true:=by simpa using hlt
   obtain⟨⟨y,ya,yc⟩,hy⟩:=zaz;obtain⟨b,o,rfl,hbl,g0,g1,g2,g3,hat⟩:=zkd;simp only at g0 g1 g2 g3 hat;replace g0:=A4 hb g0;replace g1:=A4 hb g1;replace g2:=A4 hb g2;replace g3:=A4 hb g3;have HAT:=J (hat.below hb);clear hat;have hpt:=Ix.phrT_take (x:=X) (f:=f) (s0:=s0) (l:=l) hy;have hal:=HATL.out _ (AJ hy);simp only at hpt hal;have hpl:=Ix.phrT_len (x:=X) (f:=f) (s0:=s0) (l:=l) (T:=T.take k) (fun t ht=>HATL.out t (Dc ht));rw[Az]at hpl;obtain⟨L,hL⟩:∃ L,Ix.phrT X f s0 l (T.take k)=L:=⟨_,rfl⟩;rw[hL]at hpt hpl hown;have hpl3:Hid (∀ z∈L,∃ t∈T,t.1.id=z):=J (fun z hz=>Ix.phrT_mem (by rw[hL];exact hz));have hYm:Hid (∃ t∈T,t.1.id=y.id):=J ⟨_,AJ hy,rfl⟩;have HPT:=zju;clear hpt hpl hL hy;obtain⟨W1,hW1,hb1,z0,z1,z2,z3⟩:=zbd;have w1:=A4 hb1 w0;have HA1:=J (HAT.out.below hb1);have hpc:=HAT.out.cap;have hpm:=HAT.out.max;unfold maxLen at hpm;have hw1:=Ac hb hb1;have hown1:=B4 hown hb1;by_cases hx0:¬ y.fld=f
   ·have t0:(y.fld != f)=true:=by simpa using hx0
    have HP:Hid (Ix.phrT X f s0 l (T.take (k+1))=L):=J (by rw[HPT.out,Ix.phrP,if_neg (by unfold Ix.wordP;simp[hx0]),AB]);clear hx0;exact y8k
   have t0:(y.fld != f)=false:=by simpa using hx0
   by_cases hx1:¬ y.word=s0
   ·have t1:(y.word == s0)=false:=by simpa using hx1
    have HP:Hid (Ix.phrT X f s0 l (T.take (k+1))=L):=J (by rw[HPT.out,Ix.phrP,if_neg (by unfold Ix.wordP;simp[hx1]),AB]);clear hx0 hx1;exact y8k
   have t1:(y.word == s0)=true:=by simpa using hx1
   have HP:Hid (Ix.phrT X f s0 l (T.take (k+1))=L++((y.at_.take y.at_.length).filter fun n=>GT X f y.id n 1 l).map fun _=>y.id):=J (by
    rw[HPT.out,Ix.phrP,if_pos (by unfold Ix.wordP;simp at hx0 hx1;simp[hx0,hx1]),At])
   clear hx0 hx1;go_wp2;clear hW1;go_quiet (fail);have hbq:=DP (Ah W1.heap.size W1) nq;have hb2:=Ac hw1 hbq;have hown2:=B4 hown1 hbq;have HA2:=J (HA1.out.below hbq);have y2:=A4 hbq z2;have y3:=A4 hbq z3;have x0:=A4 hbq (A4 hb1 c0);generalize W1.drewN nq=w2 at *;clear z0 z1 z2 z3 w1 HA1 hown1 hw1 hown t0 t1 g0 g1 g2 g3;obtain⟨Z,hZ⟩:∃ Z,Z=wr.heap.size:=⟨_,rfl⟩;rw[<- hZ]at y2 y3;rw[<- hZ];clear hZ;go_wp2;go_loopw [7,10] (fun v i wr=>∃ (m:Nat),m<=y.at_.length/\i=.int .i64 m/\Ix.OwnI wr W.heap.size v (BP Bf (L++((y.at_.take m).filter fun n=>GT X f y.id n 1 l).map fun _=>y.id))/\Aa w2.heap.size w2 wr) (fun _ i _=>y.at_.length - (Aj i).toNat)
   case atStart=>exact⟨0,Am _,rfl,by rw[BJ,List.filter_nil,List.map_nil,AB];exact hown2,Ah _ _⟩
   case round =>
    obtain⟨m,hm,rfl,hown3,hb3⟩:=hrel;have hb3s:=hb3.size;replace y2:=A4 hb3 y2;replace y3:=A4 hb3 y3;replace x0:=A4 hb3 x0;by_cases hlt2:m<y.at_.length
    ·obtain⟨n,hn2⟩:=zmw;have hft:=Ix.filter_take (p:=fun n=>GT X f y.id n 1 l) (id:=y.id) hn2;obtain⟨A,hA⟩:∃ A,L++((y.at_.take m).filter fun n=>GT X f y.id n 1 l).map (fun _=>y.id)=A:=⟨_,rfl⟩
     have hAl:(BP Bf A).length<=T.length:=Ix.puts_sub fun z hz=>by
      rw[<- hA,AQ]at hz;rcases hz with hz | hz
      ·exact hpl3.out z hz
      ·obtain⟨_,_,rfl⟩:=BG.1 hz;exact hYm.out
     have HFT:Hid (L++((y.at_.take (m+1)).filter fun n=>GT X f y.id n 1 l).map (fun _=>y.id)=A++(if GT X f y.id n 1 l=true then [y.id] else [])):=J (by rw[hft,<- AW,hA]);rw[hA]at hown3;clear hft hA;obtain⟨pb,po,rfl,hpb,p0⟩:=Kn HA2.out hn2;replace p0:=A4 hb3 p0;clear hn2;obtain⟨wn,hwn⟩:∃ wn,wn=wr:=⟨_,rfl⟩;subst hwn;have hm0:(0:Int)<=(m:Int):=oQ;have hmn:(m:Int)<(y.at_.length:Int):=oQ;have HF1:Hid (GT X f y.id n 1 (ws.drop 1)=GT X f y.id n 1 l):=J (HD.out X y.id n);go_wp2;go_loopw [11,12] (fun al j wr=>∃ (q:Nat) (d:Bool),1<=q/\q<=ws.length/\j=.int .i64 q/\al=.bool d/\Hid ((d&&GT X f y.id n q (ws.drop q))=GT X f y.id n 1 l)/\Aa wn.heap.size wn wr) (fun _ j _=>ws.length - (Aj j).toNat)
     case atStart=>exact⟨1,true,Ad _,hw0,by go_num,rfl,J (by rw[FL];exact HF1.out),Ah _ _⟩
     case round =>
      obtain⟨q,d,hq1,hql,rfl,rfl,hE,hb4⟩:=hrel;have hb4s:=hb4.size;replace y2:=A4 hb4 y2;replace y3:=A4 hb4 y3;replace x0:=A4 hb4 x0;replace p0:=A4 hb4 p0;have hown4:=B4 hown3 hb4;have hb5:=Ac hb3 hb4;by_cases hlt3:q<ws.length
      ·have hqd:decide (q<ws.length)=true:=by simpa using hlt3
       cases d with
       | true =>
        obtain⟨s,hs⟩:∃ s,ws[q]?=A3 s:=⟨_,Ai hlt3⟩;have wq:=A4 hb5 (A4 hb2 (HWAT.out q s hs));have hE2:=hE.out;rw[Hv hs,Ix.folF_cons,FL]at hE2;have HE2:=J hE2;have hq0:(0:Int)<=(q:Int):=oQ;have hqn:(q:Int)<(ws.length:Int):=oQ;clear hE2 hE hs;go_wp2;go_still_tail 14,oJ;change wpList _ _ _ _ _ wr.drew;have hbq2:=zjv
        have CA:Hid (∀ w',Aa wr.heap.size wr w'->Af A8 155 #[.agg #[.slice (A3 ⟨b,o,A0⟩) T.length c],.int .i64 f,.string ⟨s.toArray⟩,.int .i64 y.id,.int .i64 n,.int .i64 q] w' fun e w''=>e=.returned (.bool (Ix.at_ X f s y.id n q))/\Aa w'.heap.size w' w''):=J (fun w' hb'=>by
         have h9:=r20_at_c T (A3 ⟨b,o,A0⟩) c f s y.id n q w' (((HS.out.below hb2).below hb5).below hb') oQ;rw[HX.out]at h9;exact h9)
        generalize wr.drew=wq2 at hbq2 ⊢;go_wp2_with (go_at_call 155;(with_reducible refine (CA.out _ hbq2).mono ?_);rintro e w5 ⟨rfl,hb6⟩);go_roundw
        case rel=>exact⟨q+1,_,oQ,hlt3,by go_num,rfl,HE2,Ac hb4 (Ac hbq2 hb6)⟩
        case measure=>simp[Aj];omega
       | false =>
        have hE2:=hE.out;rw[Bool.false_and]at hE2;exact yku
      ·have hqd:decide (q<ws.length)=false:=by simpa using hlt3
       obtain rfl:q=ws.length:=oQ;have hE2:=hE.out;rw[Dd,GT,Bool.and_true]at hE2;cases d with
       | true =>
        have HA9:Hid (L++((y.at_.take (m+1)).filter fun n=>GT X f y.id n 1 l).map (fun _=>y.id)=A++[y.id]):=J (by rw[HFT.out,<- hE2,if_pos rfl]);have hpu:=hAl;obtain⟨P,hP2⟩:∃ P,BP Bf A=P:=⟨_,rfl⟩;have HPU:Hid (BP Bf (A++[y.id])=D1 Bf P y.id):=J (by rw[Ix.puts_snoc,hP2]);rw[hP2]at hown4 hpu;obtain⟨oa,oc,rfl,hio,_⟩:=Cb hown4 rfl;have HIO:=J hio;clear hE2 hE hP2 hio;go_wp2_with (go_at_call 154;(with_reducible refine (r20_insert_c P y.id oa oc _ HIO.out oQ).mono ?_);rintro e w6 ⟨v6,rfl,hown6,hb6⟩);have hWs:=hb2.size;have hWs2:=hb5.size;go_roundw
        case rel=>exact⟨m+1,hlt2,by go_num,by rw[HA9.out,HPU.out];exact DE hown6 oQ,Ac hb5 hb6⟩
        case measure=>simp[Aj];omega
       | false =>
        exact yku
    ·obtain rfl:m=y.at_.length:=oQ;rw[<- HP.out]at hown3;go_wp2;go_roundw
     case rel=>exact⟨k+1,hlt,by go_num,hown3,Ac hb2 hb3⟩
     case measure=>simp[Aj];omega
  ·have hkd:decide (k<T.length)=false:=by simpa using hlt
   exact yy5
theorem r20_Phrase_c (T:List C5) (a:Option Aq) (c:Nat) (f:Int) (ws:List GR) (wa:Option Aq) (wc:Nat) (w:Ab) (h:DT w a c T) (hn:T.length<=2500000000) (hat:∀ t∈T,t.1.at_.length<=9223372036854775807) (hw:SLA w wa wc (ws.map fun x=>(⟨x.toArray⟩:ByteArray))) :
  Af A8 91 #[.agg #[.slice a T.length c],.int .i64 f,.slice wa ws.length wc] w fun e w'=>∃ v,e=.returned v/\Ix.OwnI w' w.heap.size v (Ix.phrase (T.map (·.1)) f ws)/\Aa w.heap.size w w':=by
 cases ws with
 | nil=>exact r20_Phrase_nil T a c f wa wc w h
 | cons s0 l =>
  unfold Ix.phrase;rw[Ix.phr_T];exact r20_Phrase_some T a c f s0 l wa wc w h hn hat hw
namespace Al
theorem eq_from {α:Type}{xs ys:List α} (hl:xs.length=ys.length) (h:∀ j,j<xs.length->xs[j]?=ys[j]?):xs=ys:=by
 apply List.ext_getElem?;intro j;rcases D5 j xs.length with h1 | h1
 ·exact h j h1
 ·rw[Ez h1,Ez oQ]
end Al
theorem Ints_c (xs ys:List Int) (a b:Option Aq) (c d:Nat) (w:Ab) (hx:Ix.IA w a c xs) (hy:Ix.IA w b d ys) :
  Af A8 14 #[.slice a xs.length c,.slice b ys.length d] w fun e w'=>e=.returned (.bool (decide (xs=ys)))/\Aa w.heap.size w w':=by
 have hcx:=hx.cap;have hmx:=hx.max;have hcy:=hy.cap;have hmy:=hy.max;have hml:maxLen=9223372036854775807:=rfl;by_cases hl:xs.length=ys.length
 ·have HL:=J hl;have hli:((xs.length:Int) != (ys.length:Int))=false:=by simp[hl]
  clear hl;go_enter Tryz.func14,Tryz.ntmps14;go_wp2;go_loopw [5] (fun i wr=>∃ (k:Nat),k<=xs.length/\i=.int .i64 k/\Hid (∀ j,j<k->xs[j]?=ys[j]?)/\Aa w.heap.size w wr) (fun i _=>xs.length - (Aj i).toNat)
  case atStart=>exact⟨0,Am _,rfl,J (fun j hj=>absurd hj oQ),Ah _ _⟩
  case round =>
   obtain⟨k,hk,rfl,hE,hb⟩:=hrel;by_cases hlt:k<xs.length
   ·obtain⟨x,hxk⟩:=zfz;have hlt2:k<ys.length:=by rw[<- HL.out];exact hlt
    obtain⟨y,hyk⟩:∃ y,ys[k]?=A3 y:=⟨_,Ai hlt2⟩;obtain⟨bx,ox,rfl,hbx,cx⟩:=Kn hx hxk;obtain⟨b1,o1,rfl,hb1,cy⟩:=Kn hy hyk;replace cx:=A4 hb cx;replace cy:=A4 hb cy;have hq:(x != y)=!decide (x=y):=by by_cases h:x=y <;> simp[h]
    have g1:(k:Int)<(xs.length:Int):=oQ;have g2:(k:Int)<(ys.length:Int):=oQ;by_cases hxy:x=y
    ·have hE2:Hid (∀ j,j<k+1->xs[j]?=ys[j]?):=J (fun j hj=>by
      rcases D5 j k with h1 | h1
      ·exact hE.out j h1
      ·obtain rfl:j=k:=oQ;rw[hxk,hyk,hxy])
     rw[decide_eq_true hxy,Bool.not_true]at hq;clear hxy hxk hyk;go_wp2;go_quiet (fail);go_wp2;go_roundw
     case rel=>exact⟨k+1,oQ,by go_num,hE2,DP hb _⟩
     case measure=>simp[Aj];omega
    ·have hne:Hid (xs≠ys):=J (fun e=>hxy (by rw[e,hyk]at hxk;injection hxk with h9;exact h9.symm));rw[decide_eq_false hxy,Bool.not_false]at hq;clear hxy hxk hyk;go_wp2;go_quiet (fail);go_wp2;go_ret;exact⟨Tx.retb (decide_eq_false hne.out).symm,DP hb _⟩
   ·obtain rfl:k=xs.length:=oQ;have he:Hid (xs=ys):=J (Al.eq_from HL.out hE.out);go_wp2;go_ret;exact⟨Tx.retb (decide_eq_true he.out).symm,hb⟩
 ·have hne:Hid (xs≠ys):=J (fun e=>hl (by rw[e]));have hli:((xs.length:Int) != (ys.length:Int))=true:=by simp;omega
  clear hl;go_enter Tryz.func14,Tryz.ntmps14;go_wp2;go_ret;exact⟨Tx.retb (decide_eq_false hne.out).symm,Ah _ _⟩
namespace Ix
open Rc
def hitP (f id:Int) (s:By) (t:PT):Bool:=decide (t.1.fld=f)&&(t.1.id == id)&&(t.1.word == s)
theorem hitP_iff {f id:Int}{s:By}{t:PT}:hitP f id s t=true↔t.1.fld=f/\t.1.id=id/\t.1.word=s:=by
 unfold hitP;simp[and_assoc]
def lk (T:List PT) (f id:Int) (s:By):Option PT:=(T.filter (hitP f id s)).getLast?
theorem lk_take {T:List PT}{k:Nat}{t:PT} (f id:Int) (s:By) (h:T[k]?=A3 t):lk (T.take (k+1)) f id s=if hitP f id s t=true then A3 t else lk (T.take k) f id s:=by
 unfold lk;rw[take_snoc h,CE];by_cases hq:hitP f id s t=true
 ·rw[if_pos hq,List.filter_cons,if_pos hq];simp
 ·rw[if_neg hq,List.filter_cons,if_neg hq];simp
def atL (T:List PT) (f id:Int) (s:By):List Int:=((lk T f id s).map fun t=>t.1.at_).getD []
theorem asc_same {T:List PT} (hA:Asc (T.map (·.1))) {t u:PT} (ht:t∈T) (hu:u∈T) (h:sameK t.1 u.1):t=u:=by
 obtain⟨i,hi,rfl⟩:=List.getElem_of_mem ht;obtain⟨j,hj,rfl⟩:=List.getElem_of_mem hu;have hp:=List.pairwise_iff_getElem.1 hA;rcases Nat.lt_trichotomy i j with hij | hij | hij
 ·have:=hp i j iD UF hij;simp only[List.getElem_map]at this;exact absurd h (ltK_ne this)
 ·subst hij;rfl
 ·have:=hp j i UF iD hij;simp only[List.getElem_map]at this;exact absurd (sameK_symm h) (ltK_ne this)
theorem atL_mem {T:List PT} (hA:Asc (T.map (·.1))) {f id n:Int}{s:By}:n∈atL T f id s↔∃ t∈T,t.1.fld=f/\t.1.id=id/\t.1.word=s/\n∈t.1.at_:=by
 unfold atL lk;constructor
 ·intro h;cases hc:(T.filter (hitP f id s)).getLast? with
  | none=>rw[hc]at h;cases h
  | some t =>
   rw[hc]at h;have h1:t∈T.filter (hitP f id s):=Jn hc;obtain⟨h2,h3⟩:=Be.1 h1;obtain⟨h4,h5,h6⟩:=hitP_iff.1 h3;exact⟨t,h2,h4,h5,h6,by simpa using h⟩
 ·rintro⟨t,h2,h4,h5,h6,h7⟩;have h1:t∈T.filter (hitP f id s):=Be.2 ⟨h2,hitP_iff.2 ⟨h4,h5,h6⟩⟩;cases hc:(T.filter (hitP f id s)).getLast? with
  | none=>rw[List.getLast?_eq_none_iff]at hc;rw[hc]at h1;cases h1
  | some u =>
   have hu:=Jn hc;obtain⟨u2,u3⟩:=Be.1 hu;obtain⟨u4,u5,u6⟩:=hitP_iff.1 u3;have e:t=u:=asc_same hA h2 u2 ⟨by rw[h4,u4],by rw[h6,u6],by rw[h5,u5]⟩;simpa [<- e] using h7
def folP (T:List PT) (f id start:Int):Nat->List By->Bool
 | _,[]=>true
 | j,s::l=>(atL T f id s).contains (Dr.wrap (start+(j:Int)))&&folP T f id start (j+1) l
def hits (T:List PT) (f:Int) (ws:List By) (id:Int):Bool:=match ws with
 | []=>false
 | s::l=>(atL T f id s).any fun n=>folP T f id n 0 (s::l)
def ofF (T:List PT) (f:Int):List Int:=(T.filter fun t=>decide (t.1.fld=f)).map fun t=>t.1.id
def phrQ (T:List PT) (f:Int) (ws:List By):List Int:=(ofF T f).filter (hits T f ws)
theorem wrap_add_sub {n start:Int}{j:Nat} (hn:0<=n/\n<=9223372036854775807) (hs:0<=start/\start<=9223372036854775807) (hj:j<=50000000):Dr.wrap (n - (j:Int))=start↔n=Dr.wrap (start+(j:Int)):=by
 have e1:Dr.wrap (n - (j:Int))=n - j:=IntWalk.i64_in _ oQ;rw[e1];by_cases h:start+(j:Int)<=9223372036854775807
 ·rw[IntWalk.i64_in (start+(j:Int)) oQ];omega
 ·have:Dr.wrap (start+(j:Int))<0:=by
   unfold IntKind.wrap;have hx:(start+(j:Int)) % 2 ^ 64=start+(j:Int):=Int.emod_eq_of_lt oQ oQ;simp only[IntKind.signed,IntKind.bits,hx];rw[if_pos oW];omega
  omega
theorem fol_same {T:List PT} (hA:Asc (T.map (·.1))) (hat:∀ t∈T,∀ n∈t.1.at_,0<=n/\n<=9223372036854775807) {f id start:Int} (hs:0<=start/\start<=9223372036854775807):∀ (l:List By) (j:Nat),j+l.length<=50000000->folP T f id start j l=folF (T.map (·.1)) f id start j l
 | [],_,_=>rfl
 | s::l,j,hj=>by
  rw[AH]at hj;rw[folP,folF_cons,fol_same hA hat hs l (j+1) oQ];congr 1;rw[Bool.eq_iff_iff,J6,atL_mem hA,at_T,FN];constructor
  ·rintro⟨t,h1,h2,h3,h4,h5⟩;refine⟨t,h1,?_⟩;unfold atP;have h6:=hat t h1 _ h5;simp only[h2,h3,h4,decide_true,FL,beq_self_eq_true,FN,decide_eq_true_eq];exact⟨_,h5,(wrap_add_sub h6 hs oQ).2 rfl⟩
  ·rintro⟨t,h1,h2⟩;unfold atP at h2;simp only[Bu,decide_eq_true_eq,beq_iff_eq,FN]at h2;obtain⟨⟨⟨h3,h4⟩,h5⟩,n,h6,h7⟩:=h2;have h8:=(wrap_add_sub (hat t h1 _ h6) hs oQ).1 h7;exact⟨t,h1,h3,h5,h4,by rw[<- h8];exact h6⟩
theorem ofF_mem {T:List PT}{f z:Int}:z∈ofF T f↔∃ t∈T,t.1.fld=f/\t.1.id=z:=by
 unfold ofF;simp[and_assoc]
theorem phr_same {T:List PT} (hA:Asc (T.map (·.1))) (hat:∀ t∈T,∀ n∈t.1.at_,0<=n/\n<=9223372036854775807) (f:Int) (ws:List By) (hw:ws.length<=100000):BP Bf (phrQ T f ws)=phrase (T.map (·.1)) f ws:=by
 unfold phrase;refine Cp.puts_same Cp.ordI fun z=>?_;unfold phrQ;rw[Be,ofF_mem];cases ws with
 | nil=>simp[hits,phr]
 | cons s l =>
  rw[AH]at hw;unfold hits phr;simp only[List.mem_flatMap,BG,Be,FN,Bu,decide_eq_true_eq,beq_iff_eq];constructor
  ·rintro⟨_,n,hn,hf⟩;obtain⟨t,h1,h2,h3,h4,h5⟩:=(atL_mem hA).1 hn;have hnb:=hat t h1 n h5;rw[fol_same hA hat hnb _ _ (by rw[AH];omega),folF_cons,Bu]at hf;exact⟨t.1,⟨⟨t,h1,rfl⟩,h2,h4⟩,n,⟨h5,by rw[h3];exact hf.2⟩,h3⟩
  ·rintro⟨p,⟨⟨t,h1,rfl⟩,h2,h4⟩,n,⟨h5,h6⟩,h3⟩;have hnb:=hat t h1 n h5;have hn:n∈atL T f z s:=(atL_mem hA).2 ⟨t,h1,h2,h3,h4,h5⟩;refine⟨⟨t,h1,h2,h3⟩,n,hn,?_⟩;rw[folP,Bu];refine⟨?_,?_⟩
   ·rw[J6]
    have e:Dr.wrap (n+((0:Nat):Int))=n:=by
     rw[IntWalk.i64_in _ oQ];omega
    rw[e];exact hn
   ·rw[fol_same hA hat hnb _ _ oQ,<- h3];exact h6
end Ix
end Go.Proofs.YtlakomilichhnaaGreatDoor
