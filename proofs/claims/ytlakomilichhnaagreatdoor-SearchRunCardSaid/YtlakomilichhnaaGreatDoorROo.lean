/- Parts. -/
import Derived.Test.YtlakomilichhnaaGreatDoorROj
import Derived.Test.YtlakomilichhnaaGreatDoorROp
import Derived.Sort.OwnSorted
import Derived.Shelf.SlSortCmp.NoneTotal
namespace Go.Proofs.YtlakomilichhnaaGreatDoor
set_option maxHeartbeats 51200000
set_option maxRecDepth 100000
open Go.RowKit
open Bool renaming eq_false_or_eq_true->DW,eq_iff_iff->Bx
open Go renaming Addr->Aq,Calls->Af,DataW->Eh,Oper->Hz,Operand->Ib,TypeId->Bo,Value->Ak,World->Ab,cell_later->A4,maxLen->Ap,wpList->E2,wpList_mapUpdate_own->M7
open Go.Sort renaming ahead->Lm,alloc_eq_grow->LM
open Ix renaming Mod->EY,OwnP->Ko,OwnT->Bd,PT->C5,Post->Eg,begB->FR,encP->GQ,firsts->Ek,numC->Kv,own_lower->D0,pick->D8,plainB->Ej,postsTo->En,term->FQ,terms->JP,termsTo->LP
open Lib renaming compareInt->DR,containsS->H6,extract_data->DV,hasPrefix->Dh,hid->J,indexByte->Cx,size_eq->Ao,toList_data->AG
open List renaming any_eq_true->FN,append_assoc->AW,append_nil->AB,dropWhile_cons->Fx,drop_eq_nil_of_le->AS,drop_zero->AU,eq_nil_of_length_eq_zero->Ar,ext_getElem?->KB,filter_append->CE,flatMap_append->AR,flatMap_cons->CU,getElem?_append_right->BE,getElem?_eq_getElem->Ai,getElem?_eq_none->Ez,getElem?_eq_some_iff->Av,getElem?_map->AP,getElem?_set_ne->Hi,getElem?_take_of_lt->I0,length->Dl,length_append->Ag,length_cons->AH,length_map->Ax,length_set->IB,length_tail->Cl,length_take->Az,lt_irrefl->FW,map_append->AY,map_cons->BX,map_map->DF,map_nil->Do,map_toArray->I1,mem_append->AQ,mem_cons->AL,mem_filter->Be,mem_map->BG,mem_of_getElem?->AJ,mem_singleton->B9,take_add_one->Cz,take_length->At,take_of_length_le->Dq
open Lit renaming int->Gv
open Maps renaming atKey_put_other->M8,keyOf_int_mk->KD
open Nat renaming le_refl->Ad,le_trans->Au,lt_of_lt_of_le->AN,lt_or_ge->D5,sub_self->F9,zero_le->Am
open Option renaming none->A0,some->A3
open Proofs renaming bytesLess_eq->GF,intOf->Aj,own_below->B4
open Proofs.Tryz renaming func211->Jb,func244->Mb,func62->Lb,ntmps211->Jx,ntmps244->Ln,ntmps62->Kd,prog->A8,underlying26->BF,underlying3->B6,underlying35->Bk,underlying9->BA
open Rc renaming Fl->CH,FldA->Bz,Gd->GU,tagIs->Bg
open RowKit renaming Below->Aa
open RowKit.Below renaming heap_setCell->D4,refl->Ah
open SLA renaming below->B0
open Sr renaming arts->EK
open Tx renaming blk_later->A6,foldS->EO,newb->A9,step->Ac,sv->Hf,words->Bl
open Value renaming int->B3,ownBlock->Hr,slice->E0,string->AZ
open WideAt renaming IsKeyLit->JM
open World renaming ownsRow_nil->AI,size_alloc->An
open _root_.Array renaming getElem?_eq_getElem->JL,getElem?_eq_some_iff->AA,getElem?_modify->Dy,getElem?_toList->EA,length_toList->Ia,toList_inj->Ed
variable {P:Prop}
namespace Rc
end Rc
namespace Ix
open Rc
theorem words_take {codes:By}{subs:List (UInt8 × ByteArray)}{k:Nat}{x:UInt8 × ByteArray} (h:subs[k]?=A3 x):((allV (subs.take (k+1)) codes).flatMap fun s=>Bl s.data.toList)=((allV (subs.take k) codes).flatMap fun s=>Bl s.data.toList)++(if hasCode codes x.1=true then Bl x.2.data.toList else []):=by
 rw[allV_take codes h,AR];by_cases hp:hasCode codes x.1=true
 ·rw[if_pos hp,if_pos hp];simp
 ·rw[if_neg hp,if_neg hp];simp
theorem own_words {w:Ab}{B:Nat}{v:Ak}{A ws:List By}{xs:List ByteArray} (h:w.ownsRow B 9 1 v (A.length+xs.length) (A.map Hf++xs.map AZ)) (hx:xs.map (·.data.toList)=ws):OwnT w B v (A++ws):=by
 unfold OwnT;rw[Ag,AY,<- hx,Ax,DF];exact h
theorem words_le (codes:By) (subs:List (UInt8 × ByteArray)) (k:Nat):((allV (subs.take k) codes).flatMap fun s=>Bl s.data.toList).length<=((allV subs codes).flatMap fun s=>Bl s.data.toList).length:=by
 conv=>rhs;rw[<- List.take_append_drop k subs]
 unfold allV;rw[CE,AY,AR,Ag];omega
end Ix
theorem ykm (h:P:=by
 go_wp2_with (go_at_call 65;(with_reducible refine (HC.out _).mono ?_);rintro e w1 ⟨rfl,rfl⟩);go_ret;exact⟨rfl,Ah _ _⟩):P:=h
theorem ix_pre6_c (tag:ByteArray) (w:Ab):Af A8 131 #[.string tag] w fun e w'=>e=.returned (.bool (Dh tag.data.toList [54]))/\Aa w.heap.size w w':=by
 have HP:=fun w'=>Tryz.strings_HasPrefix tag ⟨#[54]⟩ w';change ∀ w',Af A8 65 #[.string tag,.string ⟨#[54]⟩] w' (fun e w''=>e=.returned (.bool (Dh tag.data.toList [54]))/\w''=w') at HP;generalize Dh tag.data.toList [54]=r at HP ⊢;have HC:=J HP;clear HP;go_enter Tryz.func131,Tryz.ntmps131;exact ykm
theorem ix_pre5_c (tag:ByteArray) (w:Ab):Af A8 133 #[.string tag] w fun e w'=>e=.returned (.bool (Dh tag.data.toList [53]))/\Aa w.heap.size w w':=by
 have HP:=fun w'=>Tryz.strings_HasPrefix tag ⟨#[53]⟩ w';change ∀ w',Af A8 65 #[.string tag,.string ⟨#[53]⟩] w' (fun e w''=>e=.returned (.bool (Dh tag.data.toList [53]))/\w''=w') at HP;generalize Dh tag.data.toList [53]=r at HP ⊢;have HC:=J HP;clear HP;go_enter Tryz.func133,Tryz.ntmps133;exact ykm
structure Ix.Cap (w:Ab) (bx:Nat) (L:List ByteArray):Prop where
 h:∃ (a:Option Aq) (c:Nat),w.cell? ⟨bx,0,A0⟩=A3 (.slice a L.length c)/\SLA w a c L
 lt:bx<w.heap.size
theorem Ix.Cap.below {w w':Ab}{bx:Nat}{L:List ByteArray} (h:Ix.Cap w bx L) (hb:Aa w.heap.size w w'):Ix.Cap w' bx L:=by
 obtain⟨a,c,h1,h2⟩:=h.h;exact⟨⟨a,c,A4 hb h1,h2.below hb⟩,AN h.lt hb.size⟩
theorem ix_tag1_c (tag:ByteArray) (bx:Nat) (L:List ByteArray) (w:Ab) (h:Ix.Cap w bx L) (hne:L≠[]):Af A8 209 #[.string tag,.pointer (A3 ⟨bx,0,A0⟩)] w fun e w'=>e=.returned (.bool (H6 L tag))/\Aa w.heap.size w w':=by
 obtain⟨a,c,c0,hs⟩:=h.h;obtain⟨b,o,rfl,hb,hat⟩:=hs.row hne;have hcap:=hs.cap;have hmax:=hs.max;unfold Ap at hmax;have HP:=fun w' (hb':Aa w.heap.size w w')=>Tryz.slices_Contains_string b o L.length c L tag w' (Ad _) oQ (fun j hj=>A4 hb' (hat j _ (by rw[Ai hj,List.getD_eq_getElem?_getD,Ai hj];rfl)));rw[At]at HP;generalize H6 L tag=r at HP ⊢;have HC:=J HP;clear HP;go_enter Tryz.func209,Tryz.ntmps209;go_wp2_with (go_at_call 61;(with_reducible refine (HC.out _ (Ah _ _)).mono ?_);rintro e w1 ⟨rfl,rfl⟩);go_ret;exact⟨rfl,Ah _ _⟩
theorem ix_tags_c (L:List ByteArray) (a:Option Aq) (c:Nat) (w:Ab) (h:SLA w a c L):Af A8 130 #[.slice a L.length c] w fun e w'=>∃ bx,e=.returned (.func (.func 209) #[] #[.pointer (A3 ⟨bx,0,A0⟩)])/\Ix.Cap w' bx L/\Aa w.heap.size w w':=by
 have hmf:=za;go_enter Tryz.func130,Tryz.ntmps130;go_wp2;go_ret;exact⟨w.heap.size,rfl,⟨⟨a,c,oZ,h.below (A9 _ _)⟩,oZ⟩,A9 _ _⟩
theorem y81 (h:P:=by
 go_wp2;go_roundw
 case rel=>exact⟨k+1,hlt,by go_num,by rw[HPT.out];exact hown4,hb4⟩
 case measure=>simp[Aj];omega):P:=h
theorem y1c (h:P:=by
 have hb3:=Ac hb (Ac hb1 hb2);have own3:=B4 hown (Ac hb1 hb2);clear z0 z2 z3 hW1 hown d0 d1 d2 d3;go_loopw [7,27] (fun v i wr=>∃ (j:Nat),j<=f.subs.length/\i=.int .i64 j/\Bd wr W.heap.size v (acc++(Rc.allV (f.subs.take j) codes.data.toList).flatMap fun s=>Bl s.data.toList)/\Aa W.heap.size W wr) (fun _ i _=>f.subs.length - (Aj i).toNat)
 case atStart=>exact⟨0,Am _,by go_num,by show Bd _ _ _ (acc++[]);rw[AB];exact own3,hb3⟩
 case round =>
  obtain⟨j,hj,rfl,hown4,hb4⟩:=hrel;have hb4s:=hb4.size;by_cases hlt2:j<f.subs.length
  ·obtain⟨x,hx⟩:=zmq;obtain⟨sb,so,rfl,hsb,x0,x1⟩:=HSUB.out.get hx;replace x0:=A4 hb4 x0;replace x1:=A4 hb4 x1;have hxg:=HGD.out.2 x (AJ hx);have hwt:=Ix.words_take (codes:=codes.data.toList) hx;have hwl:=Ix.words_le codes.data.toList f.subs j;have hwl2:=Ix.words_le codes.data.toList f.subs (j+1);have hwf2:((Rc.allV f.subs codes.data.toList).flatMap fun s=>Bl s.data.toList).length<=12500:=hwf;obtain⟨pr,hpr⟩:∃ pr,((Rc.allV (f.subs.take j) codes.data.toList).flatMap fun s=>Bl s.data.toList)=pr:=⟨_,rfl⟩;rw[hwt]at hwl2;rw[hpr]at hown4 hwt hwl hwl2;have hix:=Rc.indexByte_mem codes.data.toList x.1;have hhc:Rc.hasCode codes.data.toList x.1=codes.data.toList.contains x.1:=by unfold Rc.hasCode;rw[HEMP.out,Bool.false_or]
   have hal:(acc++pr).length<=1050000:=by rw[Ag];omega
   obtain⟨W2,hW2,hb6,y0,y1⟩:=zoz;have own4:=B4 hown4 hb6;by_cases hm:x.1∈codes.data.toList
   ·have hge:=hix.2 hm;rw[if_pos (by rw[hhc];simpa using hm)]at hwt hwl2;obtain⟨ws,hws⟩:∃ ws,Bl x.2.data.toList=ws:=⟨_,rfl⟩;rw[hws]at hwt hwl2;rw[Ag]at hwl2;have HWS:=J hws;have HWT:=J hwt;obtain⟨A,hA⟩:∃ A,acc++pr=A:=⟨_,rfl⟩;have HA:=zfe;rw[hA]at own4 hal
    have CW:Hid (Af A8 208 #[.string x.2] W2 fun e w'=>∃ A xs,e=.returned (.slice (A3 ⟨A,0,A0⟩) xs.length xs.length)/\xs.map (·.data.toList)=ws/\SLA w' (A3 ⟨A,0,A0⟩) xs.length xs/\W2.heap.size<=A/\Aa W2.heap.size W2 w'):=J (by
     rw[<- hws];exact text_Words_c x.2 W2 (hG.below (Ac hB (Ac hb4 hb6))) (by have:=hxg.1;omega) hxg.2)
    have hwsl:ws.length<=12500:=oQ;clear hix hhc hwt hwl hwl2 hwf2 hx hpr hm hws hA hxg hown4 hwf hpl2
    go_wp2_with (first
     |(at_builtin;go_must (refine wpList_append_sl rfl _ _ 26 rfl W.heap.size 9 i0 _ 1 16 BF HI.out hz0 hz1 hz2 rfl oX _ A.length _ rfl own5 (A3 ⟨A5,0,A0⟩) xs.length xs.length (xs.map AZ) rfl oZ oF (fun ad had=>by cases had;exact hs5.out.cells _ rfl) (SLA.ones xs) aJ aW oQ ?_);intro v7 w7 hown7 hg7 hnil7)
     |(go_at_call 185;refine (Tryz.strings_IndexByte codes x.1.toNat _).mono ?_;rintro e w4 ⟨rfl,rfl⟩)
     |(go_at_call 208;(with_reducible refine CW.out.mono ?_);rintro e w5 ⟨A5,xs,rfl,hxs,hs5',hA5,hb7⟩;have hs5:=J hs5';have HXS:=zml;have own5:=B4 own4 hb7;have hb8:=Ac hb6 hb7;have hxl:xs.length=ws.length:=(by rw[<- HXS.out,Ax]);have HK:Hid (A.length+xs.length<=1100000):=J (by rw[hxl];omega);have hs7:=hb8.size;have HXL:=J hxl;clear hs5' hxs hxl))
    have hgA:Aa W.heap.size W w7:=(Ac hb4 hb8).grown hg7 oQ (fun i hi=>(own5.lt i hi).1);go_roundw
    case rel=>exact⟨j+1,hlt2,by go_num,by rw[HWT.out,<- AW,HA.out];exact Ix.own_words hown7 HXS.out,hgA⟩
    case measure=>simp[Aj];omega
   ·have hge:Cx codes.data.toList x.1<0:=by
     have h9:¬ 0<=Cx codes.data.toList x.1:=fun h8=>hm (hix.1 h8);omega
    rw[if_neg (by rw[hhc];simpa using hm),AB]at hwt;have HWT:=J hwt;clear hix hhc hwt hwl hwl2 hwf2 hx hpr hm hal;go_wp2_with (go_at_call 185;refine (Tryz.strings_IndexByte codes x.1.toNat _).mono ?_;rintro e w4 ⟨rfl,rfl⟩);go_roundw
    case rel=>exact⟨j+1,hlt2,by go_num,by rw[HWT.out];exact own4,Ac hb4 hb6⟩
    case measure=>simp[Aj];omega
  ·obtain rfl:j=f.subs.length:=oQ;rw[At]at hown4;exact y81):P:=h
theorem yvx (h:P:=by
 have hb3:=zro;go_roundw
 case rel=>exact⟨k+1,hlt,by go_num,by rw[HPT.out];exact B4 hown hb3,Ac hb hb3⟩
 case measure=>simp[Aj];omega):P:=h
theorem yk0 (h:P:=by
 obtain rfl:k=fs.length:=oQ;rw[At]at hown;go_wp2;go_ret;exact⟨_,rfl,D0 hown hbB,Ac hB hb⟩):P:=h
theorem vbj (h:P:=by
 obtain⟨i0,hi0,hz0,hz1,hz2⟩:=zih;have HI:=J hi0;clear hi0;obtain⟨W,hW,hB,-,-,-,-,c4⟩:=zb;have HS:=J (h.below hB);clear h;have hlen:=hM.len;have hcap:=HS.out.cap;have hbB:=hB.size
 first
  |have HCQ:=J CQ;clear CQ
   have HQP:=J hqp;clear hqp;have HV:=J hV;clear hV;have hemp:=zis;have HEMP:=J hemp;clear hc0 hemp;go_enter Tryz.func129,Tryz.ntmps129;go_wp2;clear hW;go_loopw [7,15] (fun v i wr=>∃ (k:Nat),k<=fs.length/\i=.int .i64 k/\Bd wr W.heap.size v (D8 p codes.data.toList (fs.take k))/\Aa W.heap.size W wr) (fun _ i _=>fs.length - (Aj i).toNat)
   case atStart=>exact⟨0,Am _,by go_num,AI _ _ _ _,Ah _ _⟩
   case round =>
    obtain⟨k,hk,rfl,hown,hb⟩:=hrel;have hbs:=hb.size;by_cases hlt:k<fs.length
    ·obtain⟨f,hf⟩:=zah;have hfm:=zhr;obtain⟨B,o,sa,sc,rfl,hbl,d0,d1,d2,d3,hsub⟩:=zpn;replace d0:=A4 hb d0;replace d1:=A4 hb d1;replace d2:=A4 hb d2;replace d3:=A4 hb d3;have hpt:=zit;have hpl:=zcc;rw[Az]at hpl;have hwf:=zhs;have hsl:=zne;have HGD:=zpr;obtain⟨acc,hacc⟩:=zhf;rw[hacc]at hown hpt hpl;have hpl2:=zfi;clear hpl hacc hf;obtain⟨W1,hW1,hb1,z0,-,z2,-⟩:=zbr;have HSUB:=J hsub;clear hsub;have CQ:Hid (∀ b,q f.tag=b->Af A8 209 #[.string f.tag,.pointer (A3 ⟨bx,0,A0⟩)] W1 fun e w''=>e=.returned (.bool b)/\Aa W1.heap.size W1 w''):=J qG;cases hq:q f.tag with
     | false =>
      rw[if_neg OB,AB]at hpt;have HPT:=zju;have HQ:=zlb;clear hpt hq;go_wp2_with (go_at_call 209;(with_reducible refine (CQ.out false HQ.out).mono ?_);rintro e w2 ⟨rfl,hb2⟩);exact yvx
     | true =>
      rw[if_pos UY]at hpt;have HPT:=zju;have HQ:=zlb;clear hpt hq;have hscap:=HSUB.out.cap;go_wp2_with (go_at_call 209;(with_reducible refine (CQ.out true HQ.out).mono ?_);rintro e w2 ⟨rfl,hb2⟩;have z3:=A4 hb2 z2);exact y1c
    ·exact yk0
  |have HCQ:=J CQ;clear CQ
   have HQP:=J hqp;clear hqp;have HV:=J hV;clear hV;have hemp:=zis;have HEMP:=J hemp;clear hc0 hemp;go_enter Tryz.func129,Tryz.ntmps129;go_wp2;clear hW;go_loopw [7,15] (fun v i wr=>∃ (k:Nat),k<=fs.length/\i=.int .i64 k/\Bd wr W.heap.size v (D8 p codes.data.toList (fs.take k))/\Aa W.heap.size W wr) (fun _ i _=>fs.length - (Aj i).toNat)
   case atStart=>exact⟨0,Am _,by go_num,AI _ _ _ _,Ah _ _⟩
   case round =>
    obtain⟨k,hk,rfl,hown,hb⟩:=hrel;have hbs:=hb.size;by_cases hlt:k<fs.length
    ·obtain⟨f,hf⟩:=zah;have hfm:=zhr;obtain⟨B,o,sa,sc,rfl,hbl,d0,d1,d2,d3,hsub⟩:=zpn;replace d0:=A4 hb d0;replace d1:=A4 hb d1;replace d2:=A4 hb d2;replace d3:=A4 hb d3;have hpt:=zit;have hpl:=zcc;rw[Az]at hpl;have hwf:=zhs;have hsl:=zne;have HGD:=zpr;obtain⟨acc,hacc⟩:=zhf;rw[hacc]at hown hpt hpl;have hpl2:=zfi;clear hpl hacc hf;obtain⟨W1,hW1,hb1,z0,-,z2,-⟩:=zbr;have HSUB:=J hsub;clear hsub;have CQ:Hid (∀ b,q f.tag=b->Af A8 131 #[.string f.tag] W1 fun e w''=>e=.returned (.bool b)/\Aa W1.heap.size W1 w''):=J qG;cases hq:q f.tag with
     | false =>
      rw[if_neg OB,AB]at hpt;have HPT:=zju;have HQ:=zlb;clear hpt hq;go_wp2_with (go_at_call 131;(with_reducible refine (CQ.out false HQ.out).mono ?_);rintro e w2 ⟨rfl,hb2⟩);exact yvx
     | true =>
      rw[if_pos UY]at hpt;have HPT:=zju;have HQ:=zlb;clear hpt hq;have hscap:=HSUB.out.cap;go_wp2_with (go_at_call 131;(with_reducible refine (CQ.out true HQ.out).mono ?_);rintro e w2 ⟨rfl,hb2⟩;have z3:=A4 hb2 z2);exact y1c
    ·exact yk0
  |have HCQ:=J CQ;clear CQ
   have HQP:=J hqp;clear hqp;have HV:=J hV;clear hV;have hemp:=zis;have HEMP:=J hemp;clear hc0 hemp;go_enter Tryz.func129,Tryz.ntmps129;go_wp2;clear hW;go_loopw [7,15] (fun v i wr=>∃ (k:Nat),k<=fs.length/\i=.int .i64 k/\Bd wr W.heap.size v (D8 p codes.data.toList (fs.take k))/\Aa W.heap.size W wr) (fun _ i _=>fs.length - (Aj i).toNat)
   case atStart=>exact⟨0,Am _,by go_num,AI _ _ _ _,Ah _ _⟩
   case round =>
    obtain⟨k,hk,rfl,hown,hb⟩:=hrel;have hbs:=hb.size;by_cases hlt:k<fs.length
    ·obtain⟨f,hf⟩:=zah;have hfm:=zhr;obtain⟨B,o,sa,sc,rfl,hbl,d0,d1,d2,d3,hsub⟩:=zpn;replace d0:=A4 hb d0;replace d1:=A4 hb d1;replace d2:=A4 hb d2;replace d3:=A4 hb d3;have hpt:=zit;have hpl:=zcc;rw[Az]at hpl;have hwf:=zhs;have hsl:=zne;have HGD:=zpr;obtain⟨acc,hacc⟩:=zhf;rw[hacc]at hown hpt hpl;have hpl2:=zfi;clear hpl hacc hf;obtain⟨W1,hW1,hb1,z0,-,z2,-⟩:=zbr;have HSUB:=J hsub;clear hsub;have CQ:Hid (∀ b,q f.tag=b->Af A8 133 #[.string f.tag] W1 fun e w''=>e=.returned (.bool b)/\Aa W1.heap.size W1 w''):=J qG;cases hq:q f.tag with
     | false =>
      rw[if_neg OB,AB]at hpt;have HPT:=zju;have HQ:=zlb;clear hpt hq;go_wp2_with (go_at_call 133;(with_reducible refine (CQ.out false HQ.out).mono ?_);rintro e w2 ⟨rfl,hb2⟩);exact yvx
     | true =>
      rw[if_pos UY]at hpt;have HPT:=zju;have HQ:=zlb;clear hpt hq;have hscap:=HSUB.out.cap;go_wp2_with (go_at_call 133;(with_reducible refine (CQ.out true HQ.out).mono ?_);rintro e w2 ⟨rfl,hb2⟩;have z3:=A4 hb2 z2);exact y1c
    ·exact yk0
  |have HV:=J hV;clear hV
   go_enter Tryz.func132,Tryz.ntmps132;go_wp2;clear hW;go_loopw [3,12] (fun v i wr=>∃ (k:Nat),k<=fs.length/\i=.int .i64 k/\Bd wr W.heap.size v (Ix.nums (fs.take k))/\Aa W.heap.size W wr) (fun _ i _=>fs.length - (Aj i).toNat)
   case atStart=>exact⟨0,Am _,by go_num,AI _ _ _ _,Ah _ _⟩
   case round =>
    obtain⟨k,hk,rfl,hown,hb⟩:=hrel;have hbs:=hb.size;by_cases hlt:k<fs.length
    ·obtain⟨f,hf⟩:=zah;have hfm:=zhr;obtain⟨B,o,sa,sc,rfl,hbl,d0,d1,d2,d3,hsub⟩:=zpn;replace d0:=A4 hb d0;replace d1:=A4 hb d1;replace d2:=A4 hb d2;replace d3:=A4 hb d3;have hpt:=Ix.nums_take hf;have hpl:=zin;rw[Az]at hpl;have hsl:=zne;have HGD:=zpr;obtain⟨acc,hacc⟩:∃ acc,Ix.nums (fs.take k)=acc:=⟨_,rfl⟩;rw[hacc]at hown hpt hpl;have hpl2:=zfi;clear hpl hacc hf;obtain⟨W1,hW1,hb1,z0,-,z2,-⟩:=zbr;have HSUB:=J hsub;clear hsub;rcases DW (f.tag.toList == [48,50,48]) with t0 | t0
     ·have b0:Bg [48,50,48] f=true:=by unfold Bg;rw[<- AG];exact t0
      have hti:=zpx;clear b0;exact yqc
     ·have b0:Bg [48,50,48] f=false:=by unfold Bg;rw[<- AG];exact t0
      rcases DW (f.tag.toList == [48,50,50]) with t1 | t1
      ·have b1:Bg [48,50,50] f=true:=by unfold Bg;rw[<- AG];exact t1
       have hti:=zpy;clear b0 b1;exact yqc
      ·have b1:Bg [48,50,50] f=false:=by unfold Bg;rw[<- AG];exact t1
       have hti:=zov;clear b0 b1;rw[if_neg hti,AB]at hpt;have HPT:=zju;clear hpt hti;go_wp2;go_roundw
       case rel=>exact⟨k+1,hlt,by go_num,by rw[HPT.out];exact B4 hown hb1,Ac hb hb1⟩
       case measure=>simp[Aj];omega
    ·exact yk0):P:=h
theorem picks_p6_c (fs:List CH) (a:Option Aq) (c:Nat) (id ver kind:Int) (lang:ByteArray)  (q:ByteArray->Bool) (p:CH->Bool) (hqp:∀ f,p f=q f.tag) (codes:ByteArray) (hc0:codes.data.toList≠[]) (w:Ab) (hG:G w) (h:Bz w a c fs) (hM:EY fs) (hV:∀ f∈fs,GU f)
  (CQ:∀ w' tag,Aa w.heap.size w w'->Af A8 131 #[.string tag] w' fun e w''=>e=.returned (.bool (q tag))/\Aa w'.heap.size w' w'') :
  Af A8 129 #[.agg #[.int .i64 id,.int .i64 ver,.int .i64 kind,.string lang,.slice a fs.length c],.func (.func 131) #[] #[],.string codes] w fun e w'=>∃ v,e=.returned v/\Bd w' w.heap.size v (D8 p codes.data.toList fs)/\Aa w.heap.size w w':=by
 exact vbj
theorem picks_p5_c (fs:List CH) (a:Option Aq) (c:Nat) (id ver kind:Int) (lang:ByteArray)  (q:ByteArray->Bool) (p:CH->Bool) (hqp:∀ f,p f=q f.tag) (codes:ByteArray) (hc0:codes.data.toList≠[]) (w:Ab) (hG:G w) (h:Bz w a c fs) (hM:EY fs) (hV:∀ f∈fs,GU f)
  (CQ:∀ w' tag,Aa w.heap.size w w'->Af A8 133 #[.string tag] w' fun e w''=>e=.returned (.bool (q tag))/\Aa w'.heap.size w' w'') :
  Af A8 129 #[.agg #[.int .i64 id,.int .i64 ver,.int .i64 kind,.string lang,.slice a fs.length c],.func (.func 133) #[] #[],.string codes] w fun e w'=>∃ v,e=.returned v/\Bd w' w.heap.size v (D8 p codes.data.toList fs)/\Aa w.heap.size w w':=by
 exact vbj
theorem picks_tg_c (fs:List CH) (a:Option Aq) (c:Nat) (id ver kind:Int) (lang:ByteArray) (bx:Nat) (q:ByteArray->Bool) (p:CH->Bool) (hqp:∀ f,p f=q f.tag) (codes:ByteArray) (hc0:codes.data.toList≠[]) (w:Ab) (hG:G w) (h:Bz w a c fs) (hM:EY fs) (hV:∀ f∈fs,GU f)
  (CQ:∀ w' tag,Aa w.heap.size w w'->Af A8 209 #[.string tag,.pointer (A3 ⟨bx,0,A0⟩)] w' fun e w''=>e=.returned (.bool (q tag))/\Aa w'.heap.size w' w'') :
  Af A8 129 #[.agg #[.int .i64 id,.int .i64 ver,.int .i64 kind,.string lang,.slice a fs.length c],.func (.func 209) #[] #[.pointer (A3 ⟨bx,0,A0⟩)],.string codes] w fun e w'=>∃ v,e=.returned v/\Bd w' w.heap.size v (D8 p codes.data.toList fs)/\Aa w.heap.size w w':=by
 exact vbj
namespace Ix
open Rc
def numS (subs:List (UInt8 × ByteArray)):List By:=numL (allV subs [97])
theorem numS_take {subs:List (UInt8 × ByteArray)}{k:Nat}{x:UInt8 × ByteArray} (h:subs[k]?=A3 x):numS (subs.take (k+1))=numS (subs.take k)++(if x.1=97/\plainB x.2.data.toList≠[] then [plainB x.2.data.toList] else []):=by
 unfold numS;rw[allV_take _ h];have hh:hasCode [97] x.1=true↔x.1=97:=by unfold hasCode;simp[eq_comm]
 have app:∀ A B:List ByteArray,numL (A++B)=numL A++numL B:=fun A B=>by unfold numL;rw[AY,CE]
 rw[app];congr 1;by_cases hc:x.1=97
 ·rw[if_pos (hh.2 hc)];by_cases hp:plainB x.2.data.toList=[]
  ·rw[if_neg (fun h9=>h9.2 hp)];unfold numL;simp[hp]
  ·rw[if_pos ⟨hc,hp⟩];unfold numL;simp[hp]
 ·rw[if_neg (fun h9=>hc (hh.1 h9)),if_neg (fun h9=>hc h9.1)];rfl
theorem numS_all (f:Fl):numS f.subs=numF f:=rfl
theorem numS_len (subs:List (UInt8 × ByteArray)):(numS subs).length<=subs.length:=by
 unfold numS;refine Au (numL_le _) ?_;unfold allV;rw[Ax];exact List.length_filter_le _ _
theorem plainB_len:∀ (n:Nat) (l:By),l.length<=n->(plainB l).length<=l.length
 | 0,l,h=>by
  have:=Ar (by omega:l.length=0);subst this;rw[plainB_nil];exact Ad _
 | n+1,[],_=>by rw[plainB_nil];exact Ad _
 | n+1,c::r,h=>by
  rw[AH]at h ⊢;have h1:=plainB_len n r oQ;have h2:=plainB_len n r.tail (by rw[Cl];omega);rw[Cl]at h2;rw[plainB_cons];split
  ·omega
  ·split
   ·omega
   ·split <;> rw[AH] <;> omega
end Ix
theorem yeg (h:P:=by
 go_enter Jb,Jx;go_wp2;go_ret;exact⟨by rw[HN.out];rfl,Ah _ _⟩):P:=h
theorem ix_num_c (c:Nat) (hc:c<=1114111) (w:Ab):Af A8 211 #[.int .i32 c] w fun e w'=>e=.returned (.int .i32 (Kv c))/\Aa w.heap.size w w':=by
 by_cases h1:c=45
 ·subst h1;have HN:Hid (Kv ((45:Nat):Int)=-1):=J oX;exact yeg
 by_cases h2:c=32
 ·subst h2;have HN:Hid (Kv ((32:Nat):Int)=-1):=J oX;exact yeg
 by_cases h3:c=160
 ·subst h3;have HN:Hid (Kv ((160:Nat):Int)=-1):=J oX;exact yeg
 have t1:((c:Int) == 45)=false:=by rw[beq_eq_false_iff_ne];omega
 have t2:((c:Int) == 32)=false:=by rw[beq_eq_false_iff_ne];omega
 have t3:((c:Int) == 160)=false:=by rw[beq_eq_false_iff_ne];omega
 by_cases h4:65<=c/\c<=90
 ·have HN:Hid (Kv (c:Int)=(c:Int)+32):=J (by unfold Kv;rw[if_neg oQ,if_pos oQ]);have a1:(65:Int)<=(c:Int):=oQ;have a2:(c:Int)<=90:=oQ;have a3:65<=c:=oQ;have a4:c<=90:=oQ;clear h1 h2 h3 h4;go_enter Jb,Jx;go_wp2;go_ret;refine⟨?_,Ah _ _⟩;rw[HN.out];show Ending.returned (B3 .i32 ((c:Int)+97 - 65))=_;rw[show (c:Int)+97 - 65=(c:Int)+32 by omega]
 ·have HN:Hid (Kv (c:Int)=(c:Int)):=J (by unfold Kv;rw[if_neg oQ,if_neg oQ]);by_cases h5:c<65
  ·have a1:¬ (65:Int)<=(c:Int):=oQ;have a3:¬ 65<=c:=oQ;clear h1 h2 h3 h4;exact yeg
  ·have a1:(65:Int)<=(c:Int):=oQ;have a2:¬ (c:Int)<=90:=oQ;have a3:65<=c:=oQ;have a4:¬ c<=90:=oQ;clear h1 h2 h3 h4 h5;exact yeg
theorem ix_num_enters:∀ args w,(callFunc 211 args).run A8 w=.ok (.enter 211 args) w:=enters_of Jb oJ rfl
theorem ix_map_c (s:ByteArray) (w:Ab) (hG:G w) (hs:s.size<=50000000) (hv:Tx.valid s.data.toList=true) :
  Af A8 210 #[.func (.func 211) #[] #[],.string s] w fun e w'=>e=.returned (.string ⟨(Ej s.data.toList).toArray⟩)/\Aa w.heap.size w w':=by
 have h:=Tryz.strings_Map_grows 211 #[] ix_num_enters Kv s w oQ (fun W x hx _=>ix_num_c x hx W) (fun x hx=>by constructor <;> unfold Kv <;> split <;> (try split) <;> omega) hG.u;rw[Ix.plain_map _ _ (Ad _) hv]at h;exact h
theorem y8v (h:P:=by
 go_wp2_with (go_at_call 210;(with_reducible refine CMAP.out.mono ?_);rintro e w5 ⟨rfl,hb7⟩;have own5:=B4 own4 hb7;have hb8:=Ac hb6 hb7;have v0:=A4 hb7 y0;have s7:=hb8.size);go_roundw
 case rel=>exact⟨j+1,hlt2,by go_num,by rw[HNT.out,HA.out];exact own5,Ac hb4 hb8⟩
 case measure=>simp[Aj];omega):P:=h
theorem yqc (h:P:=by
 rw[if_pos hti]at hpt;have HPT:=zju;clear hpt hti;have hscap:=HSUB.out.cap;go_wp2;clear hW1 z0;go_loopw [3,27] (fun v i wr=>∃ (j:Nat),j<=f.subs.length/\i=.int .i64 j/\Bd wr W.heap.size v (acc++Ix.numS (f.subs.take j))/\Aa W.heap.size W wr) (fun _ i _=>f.subs.length - (Aj i).toNat)
 case atStart=>exact⟨0,Am _,by go_num,by show Bd _ _ _ (acc++[]);rw[AB];exact B4 hown hb1,Ac hb hb1⟩
 case round =>
  obtain⟨j,hj,rfl,hown4,hb4⟩:=hrel;have hb4s:=hb4.size;by_cases hlt2:j<f.subs.length
  ·obtain⟨x,hx⟩:=zmq;obtain⟨sb,so,rfl,hsb,x0,x1⟩:=HSUB.out.get hx;replace x0:=A4 hb4 x0;replace x1:=A4 hb4 x1;have hxg:=HGD.out.2 x (AJ hx);have hnt:=Ix.numS_take hx;have hnl:=Ix.numS_len (f.subs.take j);rw[Az]at hnl;have hpl9:=Ix.plainB_len _ x.2.data.toList (Ad _);obtain⟨A,hA⟩:∃ A,acc++Ix.numS (f.subs.take j)=A:=⟨_,rfl⟩;have HK:Hid (A.length<=1500000):=J (by rw[<- hA,Ag];omega);have HA:=zfe;rw[hA]at hown4;obtain⟨P,hPP⟩:∃ P:ByteArray,(⟨(Ej x.2.data.toList).toArray⟩:ByteArray)=P:=⟨_,rfl⟩;have HPP:=J hPP;obtain⟨W2,hW2,hb6,y0,y1⟩:=zoz;have own4:=B4 hown4 hb6
   have CMAP:Hid (Af A8 210 #[.func (.func 211) #[] #[],.string x.2] W2 fun e w'=>e=.returned (.string P)/\Aa W2.heap.size W2 w'):=J (by
    rw[<- hPP];exact ix_map_c x.2 W2 (hG.below (Ac hB (Ac hb4 hb6))) (by have:=hxg.1;omega) hxg.2)
   clear hA hPP hx hxg hnl hown4 hpl9;by_cases hP0:Ej x.2.data.toList=[]
   ·rw[if_neg (fun h9=>h9.2 hP0),AB]at hnt;have HNT:=J hnt;have hPe:(P.toList == [])=true:=by rw[AG,<- HPP.out,hP0];rfl
    clear hnt hP0;cases hc97:((x.1.toNat:Int) == 97)
    all_goals
     exact y8v
   ·have hPe:(P.toList == [])=false:=by rw[AG,<- HPP.out];simpa using hP0
    by_cases hc:x.1=97
    ·rw[if_pos ⟨hc,hP0⟩]at hnt;have HNT:=J hnt;have hc97:((x.1.toNat:Int) == 97)=true:=by rw[hc];rfl
     have HC:=J hc;clear hnt hP0 hc
     go_wp2_with (first
      |(at_builtin;go_must (refine wpList_append_sl rfl _ _ 26 rfl W.heap.size 9 i0 _ 1 16 BF HI.out hz0 hz1 hz2 rfl oX _ A.length _ rfl (own5.alloc _) (A3 ⟨_,0,A0⟩) 1 1 [AZ P] rfl rfl oF oD oG aJ aW oW ?_);intro v7 w7 hown7 hg7 hnil7)
      |(go_at_call 210;(with_reducible refine CMAP.out.mono ?_);rintro e w5 ⟨rfl,hb7⟩;have own5:=B4 own4 hb7;have hb8:=Ac hb6 hb7;have v0:=A4 hb7 y0;have s7:=hb8.size))
     have hgA:Aa W.heap.size W w7:=((Ac hb4 hb8).alloc oQ _).grown hg7 oW (fun i hi=>(own5.lt i hi).1);go_roundw
     case rel=>exact⟨j+1,hlt2,by go_num,by unfold Bd;rw[HNT.out,<- AW,HA.out,Ag,AY];rw[<- HPP.out]at hown7;exact hown7,hgA⟩
     case measure=>simp[Aj];omega
    ·rw[if_neg (fun h9=>hc h9.1),AB]at hnt;have HNT:=J hnt
     have hc97:((x.1.toNat:Int) == 97)=false:=by
      rw[beq_eq_false_iff_ne];intro e;exact hc (UInt8.toNat_inj.1 (by show x.1.toNat=97;omega))
     clear hnt hP0 hc;exact y8v
  ·obtain rfl:j=f.subs.length:=oQ;rw[At,Ix.numS_all]at hown4;exact y81):P:=h
theorem ix_numbers_c (fs:List CH) (a:Option Aq) (c:Nat) (id ver kind:Int) (lang:ByteArray) (w:Ab) (hG:G w) (h:Bz w a c fs) (hM:EY fs) (hV:∀ f∈fs,GU f) :
  Af A8 132 #[.agg #[.int .i64 id,.int .i64 ver,.int .i64 kind,.string lang,.slice a fs.length c]] w fun e w'=>∃ v,e=.returned v/\Bd w' w.heap.size v (Ix.nums fs)/\Aa w.heap.size w w':=by
 exact vbj
section
variable {P : Program} (w : Ab)
theorem step_append_sl {ops:Array Hz}{o:Hz}{a:Act}{K:Act->Ab->Prop}{Q:Exit->Act->Ab->Prop}{E:Prop} (hgd:o.guard=A0) (s x:Ib) (t:Bo)
  (ho:o.op=.call { callee:=.builtin .append,args:=#[s,x],argTypes:=#[t,t] })
  (base:Nat) (e:Bo) (i:TypeInfo) (z:Ak) (size bytes:Nat) (ht:P.underlying t=A3 (.slice e)) (hi:P.info? e=A3 i) (hz:i.zero=A3 z)
  (hsize:i.size=size) (hby:i.bytes=bytes) (hzs:z.cells.size=size) (hsz:0<size)
  (v:Ak) (n:Nat) (xs:List Ak) (hs:a.eval s=v) (hown:w.ownsRow base e size v n xs)
  (ao:Option Aq) (m c:Nat) (news:List Ak) (hx:a.eval x=.slice ao m c) (hl:news.length=m*size) (hno:ao=A0->m=0) (hnews:∀ ad,ao=A3 ad->∀ j u,news[j]?=A3 u->w.cell? (ad.add j)=A3 u) (h1:∀ u∈news,u.oneCell'=true)
  (h63:n+m<=Ap) (hbytes:(n+m)*bytes<=140737488355328) (hbase:base<=w.heap.size)
  (h:∀ v' w',w'.ownsRow base e size v' (n+m) (xs++news)->w.grownBy w' v.ownBlock->K (a.put o.dst v') w') :
  if Region.wanted o (yielded ops a.tmps)=true then Oper.wp P o a w K Q else E:=by
 have hw:=zfv;rw[if_pos hw];cases ao with
 | none =>
  obtain rfl:=hno rfl;have hn:=zew;subst hn;have hrun:=zej;unfold Oper.wp execOp;simp only[ho,resolve,invoke,builtin,Sem.run_bind,Sem.run_pure,Result.andThen_ok,I1,BX,Do,hs,hx,hrun];exact h v w UV ⟨rfl,rfl,rfl,Ad _,fun _ _ _=>rfl⟩
 | some ad =>
  obtain⟨v',w',hr,h2,h3,_,_⟩:=zcn;unfold Oper.wp execOp;simp only[ho,resolve,invoke,builtin,Sem.run_bind,Sem.run_pure,Result.andThen_ok,I1,BX,Do,hs,hx,hr];exact h v' w' h2 h3
end
theorem SLA.new {w:Ab}{xs:List ByteArray}{cs:Array Ak}{t:Bo}{X:Nat} (hX:X=w.heap.size) (hc:cs.toList=xs.map AZ) (hl:xs.length<=1000):SLA (w.alloc (.cells cs t)) (A3 ⟨X,0,A0⟩) xs.length xs :=
 ⟨Ad _,by unfold Ap;omega,X,0,fun _=>⟨rfl,by rw[hX];simp⟩,fun j x hx=>by
  have:=Br.cells_new_at w X hX cs t j (AZ x) (by rw[hc,AP,hx];rfl);rw[Cs.add_at]at this;exact this⟩
namespace Ix
open Rc
theorem ba_tag (t:ByteArray) (f:Fl):tagIs t.data.toList f=decide (f.tag=t):=by
 unfold tagIs;by_cases h:f.tag=t
 ·rw[h];simp
 ·rw[decide_eq_false h,beq_eq_false_iff_ne];intro e;exact h (ByteArray.ext (Ed.1 e))
theorem tag_one (t:ByteArray) (f:Fl):tagIs t.data.toList f=H6 [t] f.tag:=by
 rw[ba_tag,Bx,Lib.containsS_iff];simp
theorem auth_four (f:Fl):authB f=H6 [⟨#[49,48,48]⟩,⟨#[49,49,48]⟩,⟨#[55,48,48]⟩,⟨#[55,49,48]⟩] f.tag:=by
 rw[Bx,Lib.containsS_iff];unfold authB;have e1:tagIs [49,48,48] f=decide (f.tag=⟨#[49,48,48]⟩):=ba_tag ⟨#[49,48,48]⟩ f;have e2:tagIs [49,49,48] f=decide (f.tag=⟨#[49,49,48]⟩):=ba_tag ⟨#[49,49,48]⟩ f;have e3:tagIs [55,48,48] f=decide (f.tag=⟨#[55,48,48]⟩):=ba_tag ⟨#[55,48,48]⟩ f;have e4:tagIs [55,49,48] f=decide (f.tag=⟨#[55,49,48]⟩):=ba_tag ⟨#[55,49,48]⟩ f;rw[e1,e2,e3,e4];simp only[Bool.or_eq_true,decide_eq_true_eq,AL,List.not_mem_nil,or_false];constructor
 ·rintro (((h | h) | h) | h)
  ·exact .inl h
  ·exact .inr (.inl h)
  ·exact .inr (.inr (.inl h))
  ·exact .inr (.inr (.inr h))
 ·rintro (h | h | h | h)
  ·exact .inl (.inl (.inl h))
  ·exact .inl (.inl (.inr h))
  ·exact .inl (.inr h)
  ·exact .inr h
theorem beg_pre (d:UInt8) (f:Fl):begB d f=Dh f.tag.data.toList [d]:=by
 unfold begB Dh;cases f.tag.data.toList with
 | nil=>simp
 | cons b r =>
  simp[List.isPrefixOf];exact BEq.comm
theorem own_cells {w:Ab}{B:Nat}{v:Ak}{A ws:List By} (h:w.ownsRow B 9 1 v (A.length+ws.length) (A.map Hf++ws.map Hf)):OwnT w B v (A++ws):=by
 unfold OwnT;rw[Ag,AY];exact h
theorem sla_own_cells {w:Ab}{a:Option Aq}{c:Nat}{l:List By} (h:SLA w a c (l.map fun x=>(⟨x.toArray⟩:ByteArray))):∀ ad,a=A3 ad->∀ j u,(l.map Hf)[j]?=A3 u->w.cell? (ad.add j)=A3 u:=fun ad had j u hu=>h.cells ad had j u (by rw[DF];exact hu)
theorem sv_one (l:List By):∀ u∈l.map Hf,u.oneCell'=true:=fun u hu=>by
 obtain⟨x,_,rfl⟩:=BG.1 hu;rfl
theorem sla_none {w:Ab}{a:Option Aq}{c:Nat}{l:List By} (h:SLA w a c (l.map fun x=>(⟨x.toArray⟩:ByteArray))):a=A0->l.length=0:=fun ha=>by
 have:=h.none ha
 rwa [Ax]at this
end Ix
theorem ix_Terms_3 (fs:List CH) (a:Option Aq) (c:Nat) (id ver kind:Int) (lang:ByteArray) (w:Ab) (hG:G w) (h:Bz w a c fs) (hM:EY fs) (hV:∀ f∈fs,GU f) :
  Af A8 62 #[.agg #[.int .i64 id,.int .i64 ver,.int .i64 kind,.string lang,.slice a fs.length c],.int .i64 3] w fun e w'=>∃ v,e=.returned v/\Bd w' w.heap.size v (FQ fs 3)/\Aa w.heap.size w w':=by
 obtain⟨W,hW,hB,c0,c1,c2,c3,c4⟩:=zb;have hbB:=hB.size;have hWlt:=zlm;have CP:Hid (Af A8 129 #[.agg #[.int .i64 id,.int .i64 ver,.int .i64 kind,.string lang,.slice a fs.length c],.func (.func 131) #[] #[],.string ⟨#[97,120,121,122]⟩] W fun e w'=>∃ v,e=.returned v/\Bd w' W.heap.size v (D8 (FR 54) [97,120,121,122] fs)/\Aa W.heap.size W w'):=J (picks_p6_c fs a c id ver kind lang (fun t=>Dh t.data.toList [54]) (FR 54) (fun f=>Ix.beg_pre 54 f) ⟨#[97,120,121,122]⟩ oX W (hG.below hB) (h.below hB) hM hV (fun w' tag _=>ix_pre6_c tag w'));clear hG h hM hV;go_enter Lb,Kd;go_wp2_with (go_at_call 129;(with_reducible refine CP.out.mono ?_);rintro e w1 ⟨v,rfl,hown,hb1⟩);go_ret;exact⟨_,rfl,D0 hown hbB,Ac hB hb1⟩
theorem ix_Terms_4 (fs:List CH) (a:Option Aq) (c:Nat) (id ver kind:Int) (lang:ByteArray) (w:Ab) (hG:G w) (h:Bz w a c fs) (hM:EY fs) (hV:∀ f∈fs,GU f) :
  Af A8 62 #[.agg #[.int .i64 id,.int .i64 ver,.int .i64 kind,.string lang,.slice a fs.length c],.int .i64 4] w fun e w'=>∃ v,e=.returned v/\Bd w' w.heap.size v (FQ fs 4)/\Aa w.heap.size w w':=by
 obtain⟨W,hW,hB,c0,c1,c2,c3,c4⟩:=zb;have hbB:=hB.size;have hWlt:=zlm;have CP:Hid (Af A8 132 #[.agg #[.int .i64 id,.int .i64 ver,.int .i64 kind,.string lang,.slice a fs.length c]] W fun e w'=>∃ v,e=.returned v/\Bd w' W.heap.size v (FQ fs 4)/\Aa W.heap.size W w'):=J (ix_numbers_c fs a c id ver kind lang W (hG.below hB) (h.below hB) hM hV);clear hG h hM hV;go_enter Lb,Kd;go_wp2_with (go_at_call 132;(with_reducible refine CP.out.mono ?_);rintro e w1 ⟨v,rfl,hown,hb1⟩);go_ret;exact⟨_,rfl,D0 hown hbB,Ac hB hb1⟩
theorem ix_Terms_2 (fs:List CH) (a:Option Aq) (c:Nat) (id ver kind:Int) (lang:ByteArray) (w:Ab) (hG:G w) (h:Bz w a c fs) (hM:EY fs) (hV:∀ f∈fs,GU f) :
  Af A8 62 #[.agg #[.int .i64 id,.int .i64 ver,.int .i64 kind,.string lang,.slice a fs.length c],.int .i64 2] w fun e w'=>∃ v,e=.returned v/\Bd w' w.heap.size v (FQ fs 2)/\Aa w.heap.size w w':=by
 obtain⟨W,hW,hB,c0,c1,c2,c3,c4⟩:=zb;have hbB:=hB.size;have hWlt:=zlm;go_enter Lb,Kd;go_wp2;clear hW
 go_region_held3 (fun w'=>Aa W.heap.size W w'/\w'.cell? ⟨w.heap.size,0,A0⟩=A3 (.int .i64 id)/\w'.cell? ⟨w.heap.size,1,A0⟩=A3 (.int .i64 ver)/\w'.cell? ⟨w.heap.size,2,A0⟩=A3 (.int .i64 kind)/\w'.cell? ⟨w.heap.size,3,A0⟩=A3 (.string lang)/\w'.cell? ⟨w.heap.size,4,A0⟩=A3 (.slice a fs.length c))
  (first | exact⟨(Ah _ _).drew,c0,c1,c2,c3,c4⟩ | (go_split_ands;exact⟨Ac ‹_› hbx,by repeat' first | exact A4 hbx ‹_› | constructor⟩) | (go_split_ands;exact⟨Ac ‹_› (A9 _ _),by repeat' first | exact A4 (A9 _ _) ‹_› | constructor⟩))
  (first
   |(go_split_ands;go_at_call 129;refine (picks_tg_c fs a c id ver kind lang bx (fun t=>H6 [⟨#[49,48,48]⟩,⟨#[49,49,48]⟩,⟨#[55,48,48]⟩,⟨#[55,49,48]⟩] t) (Ix.authB) (fun f=>Ix.auth_four f) ⟨#[97]⟩ oX _ (hG.below (Ac hB ‹_›)) (h.below (Ac hB ‹_›)) hM hV (fun w' tag hb'=>ix_tag1_c tag bx [⟨#[49,48,48]⟩,⟨#[49,49,48]⟩,⟨#[55,48,48]⟩,⟨#[55,49,48]⟩] w' YQ oZ)).mono ?_;rintro e ww ⟨v,rfl,hown,hb3⟩;have hbx:=hb3)
   |(go_split_ands;go_at_call 130;refine (ix_tags_c [⟨#[49,48,48]⟩,⟨#[49,49,48]⟩,⟨#[55,48,48]⟩,⟨#[55,49,48]⟩] _ _ _ ?_).mono ?_;(exact (SLA.new (xs:=[⟨#[49,48,48]⟩,⟨#[49,49,48]⟩,⟨#[55,48,48]⟩,⟨#[55,49,48]⟩]) oY oY oX).below (Ah _ _).drew);rintro e ww ⟨bx,rfl,hcap,hb2⟩;have hbx:=hb2))
 all_goals
  go_split_ands;go_wp2;go_ret;exact⟨_,rfl,D0 hown (Au hbB (Below.size (B:=W.heap.size) ‹_›)),Ac hB ‹_›⟩
theorem ix_Terms_1 (fs:List CH) (a:Option Aq) (c:Nat) (id ver kind:Int) (lang:ByteArray) (w:Ab) (hG:G w) (h:Bz w a c fs) (hM:EY fs) (hV:∀ f∈fs,GU f) :
  Af A8 62 #[.agg #[.int .i64 id,.int .i64 ver,.int .i64 kind,.string lang,.slice a fs.length c],.int .i64 1] w fun e w'=>∃ v,e=.returned v/\Bd w' w.heap.size v (FQ fs 1)/\Aa w.heap.size w w':=by
 obtain⟨W,hW,hB,c0,c1,c2,c3,c4⟩:=zb;have hbB:=hB.size;have hWlt:=zlm;obtain⟨i0,hi0,hz0,hz1,hz2⟩:=zih;have HI:=J hi0;clear hi0;have L1:=zkl;have L2:=zmd;have hA0:((D8 (Bg [50,52,54]) [97,98] fs).map Hf).length=(D8 (Bg [50,52,54]) [97,98] fs).length*1:=oZ;have hA1:(D8 (Bg [50,52,53]) [97,98,110,112] fs).length+(D8 (Bg [50,52,54]) [97,98] fs).length<=Ap:=by unfold Ap;omega
 have hA2:((D8 (Bg [50,52,53]) [97,98,110,112] fs).length+(D8 (Bg [50,52,54]) [97,98] fs).length)*16<=140737488355328:=oQ;go_enter Lb,Kd;go_wp2;clear hW
 go_region_held3 (fun w'=>Aa W.heap.size W w'/\w'.cell? ⟨w.heap.size,0,A0⟩=A3 (.int .i64 id)/\w'.cell? ⟨w.heap.size,1,A0⟩=A3 (.int .i64 ver)/\w'.cell? ⟨w.heap.size,2,A0⟩=A3 (.int .i64 kind)/\w'.cell? ⟨w.heap.size,3,A0⟩=A3 (.string lang)/\w'.cell? ⟨w.heap.size,4,A0⟩=A3 (.slice a fs.length c))
  (first | exact⟨(Ah _ _).drew,c0,c1,c2,c3,c4⟩ | (go_split_ands;exact⟨Ac ‹_› hbx,by repeat' first | exact A4 hbx ‹_› | constructor⟩) | (go_split_ands;exact⟨Ac ‹_› (A9 _ _),by repeat' first | exact A4 (A9 _ _) ‹_› | constructor⟩) | (go_split_ands;exact⟨Below.grown ‹_› hg9 (Below.size (B:=W.heap.size) ‹_›) (fun j hj=>(own9.lt j hj).1),(hg9.cell_far ⟨w.heap.size,0,A0⟩ (AN hWlt hw9) hfar).trans ‹_›,(hg9.cell_far ⟨w.heap.size,1,A0⟩ (AN hWlt hw9) hfar).trans ‹_›,(hg9.cell_far ⟨w.heap.size,2,A0⟩ (AN hWlt hw9) hfar).trans ‹_›,(hg9.cell_far ⟨w.heap.size,3,A0⟩ (AN hWlt hw9) hfar).trans ‹_›,(hg9.cell_far ⟨w.heap.size,4,A0⟩ (AN hWlt hw9) hfar).trans ‹_›⟩))
  (first
   |(go_split_ands;have hA3:=Below.size (B:=W.heap.size) (w:=W) (w':=ww) ‹_›;refine step_append_sl ww oV _ _ 26 oV W.heap.size 9 i0 _ 1 16 BF HI.out hz0 hz1 hz2 oV oX _ (D8 (Bg [50,52,53]) [97,98,110,112] fs).length _ oV (own9) sa (D8 (Bg [50,52,54]) [97,98] fs).length sc ((D8 (Bg [50,52,54]) [97,98] fs).map Hf) oV hA0 (Ix.sla_none HSL.out) (Ix.sla_own_cells HSL.out) (Ix.sv_one (D8 (Bg [50,52,54]) [97,98] fs)) hA1 hA2 hA3 ?_;intro v9 w9 hown9 hg9;have hfar:A3 w.heap.size≠_:=(fun e=>by have:=(own9.lt _ e.symm).1;omega);have hw9:=hA3)
   |(go_split_ands;go_at_call 129;refine (picks_tg_c fs a c id ver kind lang bx2 (fun t=>H6 [⟨#[50,52,54]⟩] t) (Bg [50,52,54]) (fun f=>Ix.tag_one ⟨#[50,52,54]⟩ f) ⟨#[97,98]⟩ oX _ (hG.below (Ac hB ‹_›)) (h.below (Ac hB ‹_›)) hM hV (fun w' tag hb'=>ix_tag1_c tag bx2 [⟨#[50,52,54]⟩] w' (by first | exact hcap2.below hb' | exact (hcap2.below (A9 _ _)).below hb' | exact (hcap2.below ((A9 _ _).drew)).below hb') oZ)).mono ?_;rintro e ww ⟨v2,rfl,hown2,hb5⟩;have hbx:=hb5;obtain⟨sa,sc,rfl,hsl⟩:=Ix.own_sla hown2;have HSL:=J hsl;clear hsl hown2;have own9:=B4 (B4 hown1 hb34) hb5)
   |(go_split_ands;go_at_call 130;refine (ix_tags_c [⟨#[50,52,54]⟩] _ _ _ ?_).mono ?_;(first | exact (SLA.new (xs:=[⟨#[50,52,54]⟩]) rfl rfl oX) | exact (B0 (SLA.new (xs:=[⟨#[50,52,54]⟩]) rfl rfl oX) (Ah _ _).drew) | exact (SLA.new (xs:=[⟨#[50,52,54]⟩]) (An _ _).symm rfl oX) | exact (B0 (SLA.new (xs:=[⟨#[50,52,54]⟩]) (An _ _).symm rfl oX) (Ah _ _).drew) | exact (B0 (SLA.new (xs:=[⟨#[50,52,54]⟩]) rfl rfl oX) hb3) | exact (B0 (B0 (SLA.new (xs:=[⟨#[50,52,54]⟩]) rfl rfl oX) (Ah _ _).drew) hb3) | exact (B0 (SLA.new (xs:=[⟨#[50,52,54]⟩]) (An _ _).symm rfl oX) hb3) | exact (B0 (B0 (SLA.new (xs:=[⟨#[50,52,54]⟩]) (An _ _).symm rfl oX) (Ah _ _).drew) hb3) | exact (B0 (B0 (SLA.new (xs:=[⟨#[50,52,54]⟩]) rfl rfl oX) hb2) hb3) | exact (B0 (B0 (B0 (SLA.new (xs:=[⟨#[50,52,54]⟩]) rfl rfl oX) (Ah _ _).drew) hb2) hb3) | exact (B0 (B0 (SLA.new (xs:=[⟨#[50,52,54]⟩]) (An _ _).symm rfl oX) hb2) hb3) | exact (B0 (B0 (B0 (SLA.new (xs:=[⟨#[50,52,54]⟩]) (An _ _).symm rfl oX) (Ah _ _).drew) hb2) hb3) | exact (B0 (B0 (B0 (SLA.new (xs:=[⟨#[50,52,54]⟩]) rfl rfl oX) (A9 _ _)) hb2) hb3) | exact (B0 (B0 (B0 (B0 (SLA.new (xs:=[⟨#[50,52,54]⟩]) rfl rfl oX) (Ah _ _).drew) (A9 _ _)) hb2) hb3) | exact (B0 (B0 (B0 (SLA.new (xs:=[⟨#[50,52,54]⟩]) (An _ _).symm rfl oX) (A9 _ _)) hb2) hb3) | exact (B0 (B0 (B0 (B0 (SLA.new (xs:=[⟨#[50,52,54]⟩]) (An _ _).symm rfl oX) (Ah _ _).drew) (A9 _ _)) hb2) hb3) | exact (B0 (B0 (B0 (B0 (SLA.new (xs:=[⟨#[50,52,54]⟩]) rfl rfl oX) (A9 _ _)) (Ah _ _).drew) hb2) hb3) | exact (B0 (B0 (B0 (B0 (B0 (SLA.new (xs:=[⟨#[50,52,54]⟩]) rfl rfl oX) (Ah _ _).drew) (A9 _ _)) (Ah _ _).drew) hb2) hb3) | exact (B0 (B0 (B0 (B0 (SLA.new (xs:=[⟨#[50,52,54]⟩]) (An _ _).symm rfl oX) (A9 _ _)) (Ah _ _).drew) hb2) hb3) | exact (B0 (B0 (B0 (B0 (B0 (SLA.new (xs:=[⟨#[50,52,54]⟩]) (An _ _).symm rfl oX) (Ah _ _).drew) (A9 _ _)) (Ah _ _).drew) hb2) hb3));rintro e ww ⟨bx2,rfl,hcap2,hb4⟩;have hbx:=hb4;have hb34:Aa wp.heap.size wp ww:=by first | exact hb4 | exact Ac (A9 _ _) hb4 | exact Ac ((A9 _ _).drew) hb4)
   |(go_split_ands;go_at_call 129;refine (picks_tg_c fs a c id ver kind lang bx (fun t=>H6 [⟨#[50,52,53]⟩] t) (Bg [50,52,53]) (fun f=>Ix.tag_one ⟨#[50,52,53]⟩ f) ⟨#[97,98,110,112]⟩ oX _ (hG.below (Ac hB ‹_›)) (h.below (Ac hB ‹_›)) hM hV (fun w' tag hb'=>ix_tag1_c tag bx [⟨#[50,52,53]⟩] w' YQ oZ)).mono ?_;rintro e ww ⟨v1,rfl,hown1,hb3⟩;have hbx:=hb3;replace hown1:=D0 hown1 (Below.size (B:=W.heap.size) ‹_›);obtain⟨wp,hwp⟩:∃ wp,wp=ww:=⟨_,rfl⟩;subst hwp)
   |(go_split_ands;go_at_call 130;refine (ix_tags_c [⟨#[50,52,53]⟩] _ _ _ ?_).mono ?_;(first | exact (SLA.new (xs:=[⟨#[50,52,53]⟩]) rfl rfl oX) | exact (B0 (SLA.new (xs:=[⟨#[50,52,53]⟩]) rfl rfl oX) (Ah _ _).drew) | exact (SLA.new (xs:=[⟨#[50,52,53]⟩]) (An _ _).symm rfl oX) | exact (B0 (SLA.new (xs:=[⟨#[50,52,53]⟩]) (An _ _).symm rfl oX) (Ah _ _).drew) | exact (B0 (SLA.new (xs:=[⟨#[50,52,53]⟩]) rfl rfl oX) (A9 _ _)) | exact (B0 (B0 (SLA.new (xs:=[⟨#[50,52,53]⟩]) rfl rfl oX) (Ah _ _).drew) (A9 _ _)) | exact (B0 (SLA.new (xs:=[⟨#[50,52,53]⟩]) (An _ _).symm rfl oX) (A9 _ _)) | exact (B0 (B0 (SLA.new (xs:=[⟨#[50,52,53]⟩]) (An _ _).symm rfl oX) (Ah _ _).drew) (A9 _ _)) | exact (B0 (B0 (SLA.new (xs:=[⟨#[50,52,53]⟩]) rfl rfl oX) (A9 _ _)) (Ah _ _).drew) | exact (B0 (B0 (B0 (SLA.new (xs:=[⟨#[50,52,53]⟩]) rfl rfl oX) (Ah _ _).drew) (A9 _ _)) (Ah _ _).drew) | exact (B0 (B0 (SLA.new (xs:=[⟨#[50,52,53]⟩]) (An _ _).symm rfl oX) (A9 _ _)) (Ah _ _).drew) | exact (B0 (B0 (B0 (SLA.new (xs:=[⟨#[50,52,53]⟩]) (An _ _).symm rfl oX) (Ah _ _).drew) (A9 _ _)) (Ah _ _).drew));rintro e ww ⟨bx,rfl,hcap,hb2⟩;have hbx:=hb2))
 all_goals
  go_split_ands;go_wp2;go_ret;exact⟨_,rfl,D0 (Ix.own_cells hown9) hbB,Ac hB ‹_›⟩
theorem ix_Terms_14 (fs:List CH) (a:Option Aq) (c:Nat) (id ver kind:Int) (lang:ByteArray) (k:Nat) (h1:1<=k) (h4:k<=4) (w:Ab) (hG:G w) (h:Bz w a c fs) (hM:EY fs) (hV:∀ f∈fs,GU f) :
  Af A8 62 #[.agg #[.int .i64 id,.int .i64 ver,.int .i64 kind,.string lang,.slice a fs.length c],.int .i64 k] w fun e w'=>∃ v,e=.returned v/\Bd w' w.heap.size v (FQ fs k)/\Aa w.heap.size w w':=by
 rcases (by omega:k=1\/k=2\/k=3\/k=4) with rfl | rfl | rfl | rfl
 ·exact ix_Terms_1 fs a c id ver kind lang w hG h hM hV
 ·exact ix_Terms_2 fs a c id ver kind lang w hG h hM hV
 ·exact ix_Terms_3 fs a c id ver kind lang w hG h hM hV
 ·exact ix_Terms_4 fs a c id ver kind lang w hG h hM hV
theorem ix_Terms_0 (fs:List CH) (a:Option Aq) (c:Nat) (id ver kind:Int) (lang:ByteArray) (w:Ab) (hG:G w) (h:Bz w a c fs) (hM:EY fs) (hV:∀ f∈fs,GU f) :
  Af A8 62 #[.agg #[.int .i64 id,.int .i64 ver,.int .i64 kind,.string lang,.slice a fs.length c],.int .i64 0] w fun e w'=>∃ v,e=.returned v/\Bd w' w.heap.size v (JP fs 0)/\Aa w.heap.size w w':=by
 obtain⟨W,hW,hB,c0,c1,c2,c3,c4⟩:=zb;have hbB:=hB.size;have hWlt:=zlm;obtain⟨i0,hi0,hz0,hz1,hz2⟩:=zih;have HI:=J hi0;clear hi0;have HS:=J (h.below hB);have CT:Hid (∀ (k:Nat) w',1<=k->k<=4->Aa W.heap.size W w'->Af A8 62 #[.agg #[.int .i64 id,.int .i64 ver,.int .i64 kind,.string lang,.slice a fs.length c],.int .i64 k] w' fun e w''=>∃ v,e=.returned v/\Bd w'' w'.heap.size v (FQ fs k)/\Aa w'.heap.size w' w''):=J (fun k w' h1 h4 hb=>ix_Terms_14 fs a c id ver kind lang k h1 h4 w' (hG.below (Ac hB hb)) (HS.out.below hb) hM hV);have CB:Hid (∀ w',Aa W.heap.size W w'->Af A8 129 #[.agg #[.int .i64 id,.int .i64 ver,.int .i64 kind,.string lang,.slice a fs.length c],.func (.func 133) #[] #[],.string ⟨#[97]⟩] w' fun e w''=>∃ v,e=.returned v/\Bd w'' w'.heap.size v (D8 (FR 53) [97] fs)/\Aa w'.heap.size w' w''):=J (fun w' hb=>picks_p5_c fs a c id ver kind lang (fun t=>Dh t.data.toList [53]) (FR 53) (fun f=>Ix.beg_pre 53 f) ⟨#[97]⟩ oX w' (hG.below (Ac hB hb)) (HS.out.below hb) hM hV (fun w' tag _=>ix_pre5_c tag w'));have HM:=J hM;clear hG h hM hV;go_enter Lb,Kd;go_wp2;clear hW;go_loopw [5,6] (fun v i wr=>∃ (k:Nat),k<=4/\i=.int .i64 (k+1)/\Bd wr W.heap.size v (LP fs k)/\Aa W.heap.size W wr) (fun _ i _=>5 - (Aj i).toNat)
 case atStart=>exact⟨0,Am _,by go_num,AI _ _ _ _,Ah _ _⟩
 case round =>
  obtain⟨k,hk,rfl,hown,hb⟩:=hrel;have hbs:=hb.size;replace c0:=A4 hb c0;replace c1:=A4 hb c1;replace c2:=A4 hb c2;replace c3:=A4 hb c3;replace c4:=A4 hb c4;have hl:=Ix.termsTo_len HM.out k;by_cases hlt:k<4
  ·have hl2:=Ix.term_len HM.out (k+1);have HT:=J (Ix.termsTo_succ fs k);have hk1:((k:Int)+1)<=4:=oQ;have hcast:((k+1:Nat):Int)=(k:Int)+1:=oQ
   have CK:Hid (∀ w',Aa W.heap.size W w'->Af A8 62 #[.agg #[.int .i64 id,.int .i64 ver,.int .i64 kind,.string lang,.slice a fs.length c],.int .i64 ((k:Int)+1)] w' fun e w''=>∃ v,e=.returned v/\Bd w'' w'.heap.size v (FQ fs (k+1))/\Aa w'.heap.size w' w''):=J (fun w' hb=>by
    have h9:=CT.out (k+1) w' oQ oQ hb;rw[hcast]at h9;exact h9)
   clear hcast
   go_wp2_with (first
    |(at_builtin;go_must (refine wpList_append_sl rfl _ _ 26 rfl W.heap.size 9 i0 _ 1 16 BF HI.out hz0 hz1 hz2 rfl oX _ (LP fs k).length _ rfl own2 va (FQ fs (k+1)).length vc ((FQ fs (k+1)).map Hf) rfl oZ (Ix.sla_none HSV.out) (Ix.sla_own_cells HSV.out) (Ix.sv_one _) oK oQ oQ ?_);intro v7 w7 hown7 hg7 hnil7)
    |(go_at_call 62;(with_reducible refine (CK.out _ hb).mono ?_);rintro e w2 ⟨v2,rfl,hown2,hb2⟩;obtain⟨va,vc,rfl,hsv⟩:=zix;have HSV:=zrk;clear hsv hown2;have s2:=hb2.size;have own2:=zrs))
   have hb7:=zgu;go_roundw
   case rel=>exact⟨k+1,oQ,by go_num,by rw[HT.out];exact Ix.own_cells hown7,hb7⟩
   case measure=>simp[Aj];omega
  ·obtain rfl:k=4:=oQ;have hl2:=zow;have HT:=J (Ix.terms_zero fs);clear hlt hk
   go_wp2_with (first
    |(at_builtin;go_must (refine wpList_append_sl rfl _ _ 26 rfl W.heap.size 9 i0 _ 1 16 BF HI.out hz0 hz1 hz2 rfl oX _ (LP fs 4).length _ rfl own2 va (D8 (FR 53) [97] fs).length vc ((D8 (FR 53) [97] fs).map Hf) rfl oZ (Ix.sla_none HSV.out) (Ix.sla_own_cells HSV.out) (Ix.sv_one _) oK oQ oQ ?_);intro v7 w7 hown7 hg7 hnil7)
    |(go_at_call 129;(with_reducible refine (CB.out _ hb).mono ?_);rintro e w2 ⟨v2,rfl,hown2,hb2⟩;obtain⟨va,vc,rfl,hsv⟩:=zix;have HSV:=zrk;clear hsv hown2;have s2:=hb2.size;have own2:=zrs))
   have hb7:=zgu;go_ret;exact⟨_,rfl,by rw[HT.out];exact D0 (Ix.own_cells hown7) hbB,Ac hB hb7⟩
theorem ix_Terms_x (fs:List CH) (a:Option Aq) (c:Nat) (id ver kind:Int) (lang:ByteArray) (x:Int) (hx:x<0\/4<x) (w:Ab) :
  Af A8 62 #[.agg #[.int .i64 id,.int .i64 ver,.int .i64 kind,.string lang,.slice a fs.length c],.int .i64 x] w fun e w'=>∃ v,e=.returned v/\Bd w' w.heap.size v []/\Aa w.heap.size w w':=by
 obtain⟨W,hW,hB,c0,c1,c2,c3,c4⟩:=zb;have hbB:=hB.size;have hWlt:=zlm;have t0:(x == 0)=false:=by simp;omega
 have t1:(x == 1)=false:=by simp;omega
 have t2:(x == 2)=false:=by simp;omega
 have t3:(x == 3)=false:=by simp;omega
 have t4:(x == 4)=false:=by simp;omega
 clear hx;go_enter Lb,Kd;go_wp2;go_ret;exact⟨_,rfl,AI _ _ _ _,hB⟩
theorem ix_Terms_c (fs:List CH) (a:Option Aq) (c:Nat) (id ver kind:Int) (lang:ByteArray) (x:Int) (w:Ab) (hG:G w) (h:Bz w a c fs) (hM:EY fs) (hV:∀ f∈fs,GU f) :
  Af A8 62 #[.agg #[.int .i64 id,.int .i64 ver,.int .i64 kind,.string lang,.slice a fs.length c],.int .i64 x] w fun e w'=>∃ v,e=.returned v/\Bd w' w.heap.size v (JP fs x)/\Aa w.heap.size w w':=by
 by_cases h0:x=0
 ·subst h0;exact ix_Terms_0 fs a c id ver kind lang w hG h hM hV
 ·unfold JP;rw[if_neg h0];by_cases h4:1<=x/\x<=4
  ·rw[if_pos h4];obtain⟨k,rfl⟩:∃ k:Nat,x=k:=⟨x.toNat,oQ⟩;exact ix_Terms_14 fs a c id ver kind lang k oQ oQ w hG h hM hV
  ·rw[if_neg h4];exact ix_Terms_x fs a c id ver kind lang x oQ w
section
open Go.Sort (grow)
namespace Ix
def cmpB (x y:By):Int:=if x<y then -1 else if y<x then 1 else 0
def orI (a b c:Int):Int:=if a≠0 then a else if b≠0 then b else c
def cmpP (p q:Post):Int:=orI (DR p.fld q.fld) (cmpB p.word q.word) (DR p.id q.id)
theorem cmpP_lt (p q:Post):decide (cmpP p q<0)=ltK p q:=by
 rw[Bx,decide_eq_true_eq,ltK_iff];unfold cmpP orI DR cmpB;by_cases h1:p.fld<q.fld
 ·simp[h1]
 ·by_cases h2:p.fld > q.fld
  ·have h3:¬ p.fld=q.fld:=oQ;simp[h1,h2,h3]
  ·have h3:p.fld=q.fld:=oQ;by_cases h4:p.word<q.word
   ·simp[h3,h4]
   ·by_cases h5:q.word<p.word
    ·have h6:¬ p.word=q.word:=fun e=>by rw[e]at h5;exact FW _ h5
     simp[h3,h4,h5,h6]
    ·have h6:p.word=q.word:=by
      by_cases e:p.word=q.word
      ·exact e
      ·exact absurd (ltB_tri _ _ h4 e) h5
     by_cases h7:p.id<q.id
     ·simp[h3,h6,h7,FW]
     ·by_cases h8:p.id > q.id
      ·simp[h3,h6,h7,h8,FW]
      ·simp[h3,h6,h7,h8,FW]
theorem grow_three {w W wq:Ab}{o1 o2:Obj} (h:(w.alloc o1).alloc o2=W) (h2:W.drew=wq) (o:Obj):∃ n os,wq.alloc o=grow (w.drewN n) os:=by
 refine⟨1,#[o1]++#[o2]++#[o],?_⟩;rw[<- h2,<- h,LM,LM,LM,<- Go.Sort.grow_grow,<- Go.Sort.grow_grow];rfl
end Ix
theorem isNaN_str_c (x:ByteArray) (w:Ab):Af A8 264 #[.string x] w fun e w'=>e=.returned (.bool false)/\w'=w:=by
 go_enter Tryz.func264,Tryz.ntmps264;go_wp2;go_ret;exact⟨rfl,rfl⟩
theorem uyo (h:P:=by
 go_enter Tryz.func202,Tryz.ntmps202;go_wp2_with (go_at_call 264;refine (isNaN_str_c _ _).mono ?_;rintro e w' ⟨rfl,rfl⟩);go_ret;exact⟨by rw[HR.out];rfl,rfl⟩):P:=h
theorem cmp_str_c (x y:Ix.By) (w:Ab):Af A8 202 #[.string ⟨x.toArray⟩,.string ⟨y.toArray⟩] w fun e w'=>e=.returned (.int .i64 (Ix.cmpB x y))/\w'=w:=by
 have h1:Op.bytesLess x y=decide (x<y):=GF x y;have h2:Op.bytesLess y x=decide (y<x):=GF y x;by_cases g1:x<y
 ·have HR:Hid (Ix.cmpB x y=-1):=J (if_pos g1);rw[decide_eq_true g1]at h1;clear g1;exact uyo
 ·rw[decide_eq_false g1]at h1;by_cases g2:y<x
  ·have HR:Hid (Ix.cmpB x y=1):=J (by unfold Ix.cmpB;rw[if_neg g1,if_pos g2]);rw[decide_eq_true g2]at h2;have h3:(x == y)=false:=by rw[beq_eq_false_iff_ne];intro e;rw[e]at g2;exact FW _ g2
   clear g1 g2;exact uyo
  ·have HR:Hid (Ix.cmpB x y=0):=J (by unfold Ix.cmpB;rw[if_neg g1,if_neg g2]);rw[decide_eq_false g2]at h2
   have h3:(x == y)=true:=by
    rw[beq_iff_eq];by_cases e:x=y
    ·exact e
    ·exact absurd (Ix.ltB_tri _ _ g1 e) g2
   clear g1 g2;exact uyo
theorem cmp_or_c (a b c:Int) (X:Nat) (w:Ab) (c0:w.cell? ⟨X,0,A0⟩=A3 (.int .i64 a)) (c1:w.cell? ⟨X,1,A0⟩=A3 (.int .i64 b)) (c2:w.cell? ⟨X,2,A0⟩=A3 (.int .i64 c)) :
  Af A8 50 #[.slice (A3 ⟨X,0,A0⟩) 3 3] w fun e w'=>e=.returned (.int .i64 (Ix.orI a b c))/\w'=w:=by
 go_enter Tryz.func50,Tryz.ntmps50;go_wp2;go_loop [8] (fun i=>∃ (k:Nat),k<=3/\i=.int .i64 k/\(1<=k->a=0)/\(2<=k->b=0)/\(3<=k->c=0)) (fun i=>3 - (Aj i).toNat)
 case atStart=>exact⟨0,oQ,by go_num,fun h=>oQ,fun h=>oQ,fun h=>oQ⟩
 case round =>
  obtain⟨k,hk,rfl,ha,hb,hc⟩:=hrel;rcases (by omega:k=0\/k=1\/k=2\/k=3) with rfl | rfl | rfl | rfl
  ·cases hq:(a != 0) with
   | true =>
    have HR:Hid (Ix.orI a b c=a):=J (if_pos iB);clear ha hb hc;go_wp2;go_ret;exact⟨by rw[HR.out];rfl,rfl⟩
   | false =>
    have ha0:=J (show a=0 by simpa using hq);clear ha hb hc;go_wp2;go_round
    case rel=>exact⟨1,oQ,by go_num,fun _=>ha0.out,fun h=>oQ,fun h=>oQ⟩
    case measure=>simp[Aj]
  ·have ha0:=zlu;clear ha hb hc;cases hq:(b != 0) with
   | true =>
    have HR:Hid (Ix.orI a b c=b):=J (by unfold Ix.orI;rw[if_neg yF,if_pos iB]);go_wp2;go_ret;exact⟨by rw[HR.out];rfl,rfl⟩
   | false =>
    have hb0:=J (show b=0 by simpa using hq);go_wp2;go_round
    case rel=>exact⟨2,oQ,by go_num,fun _=>ha0.out,fun _=>hb0.out,fun h=>oQ⟩
    case measure=>simp[Aj]
  ·have ha0:=zlu;have hb0:=J (hb oQ);clear ha hb hc;have HR:Hid (Ix.orI a b c=c):=J (by unfold Ix.orI;rw[if_neg yF,if_neg (by rw[hb0.out];simp)]);cases hq:(c != 0) with
   | true =>
    go_wp2;go_ret;exact⟨by rw[HR.out];rfl,rfl⟩
   | false =>
    have hc0:=J (show c=0 by simpa using hq);go_wp2;go_round
    case rel=>exact⟨3,oQ,by go_num,fun _=>ha0.out,fun _=>hb0.out,fun _=>hc0.out⟩
    case measure=>simp[Aj]
  ·have ha0:=zlu;have hb0:=J (hb oQ);have hc0:=J (hc oQ);clear ha hb hc;have HR:Hid (Ix.orI a b c=0):=J (by unfold Ix.orI;rw[ha0.out,hb0.out,hc0.out];rfl);go_wp2;go_ret;exact⟨by rw[HR.out];rfl,rfl⟩
theorem ix_order_c (p q:C5) (w:Ab):Af A8 121 #[.agg #[.int .i64 p.1.fld,.string ⟨p.1.word.toArray⟩,.int .i64 p.1.id,.slice p.2.1 p.1.at_.length p.2.2],.agg #[.int .i64 q.1.fld,.string ⟨q.1.word.toArray⟩,.int .i64 q.1.id,.slice q.2.1 q.1.at_.length q.2.2]] w fun e w'=>e=.returned (.int .i64 (Ix.cmpP p.1 q.1))/\∃ n os,w'=grow (w.drewN n) os:=by
 obtain⟨W,hW⟩:∃ W,(w.alloc (.cells #[.int .i64 p.1.fld,.string ⟨p.1.word.toArray⟩,.int .i64 p.1.id,.slice p.2.1 p.1.at_.length p.2.2] 100)).alloc (.cells #[.int .i64 q.1.fld,.string ⟨q.1.word.toArray⟩,.int .i64 q.1.id,.slice q.2.1 q.1.at_.length q.2.2] 100)=W:=⟨_,rfl⟩;have HW:=J hW;have c0:W.cell? ⟨w.heap.size,0,A0⟩=A3 (.int .i64 p.1.fld):=by rw[<- hW];simp
 have c1:W.cell? ⟨w.heap.size,1,A0⟩=A3 (.string ⟨p.1.word.toArray⟩):=by rw[<- hW];simp
 have c2:W.cell? ⟨w.heap.size,2,A0⟩=A3 (.int .i64 p.1.id):=by rw[<- hW];simp
 have d0:W.cell? ⟨w.heap.size+1,0,A0⟩=A3 (.int .i64 q.1.fld):=by rw[<- hW];simp
 have d1:W.cell? ⟨w.heap.size+1,1,A0⟩=A3 (.string ⟨q.1.word.toArray⟩):=by rw[<- hW];simp
 have d2:W.cell? ⟨w.heap.size+1,2,A0⟩=A3 (.int .i64 q.1.id):=by rw[<- hW];simp
 go_enter Tryz.func121,Tryz.ntmps121;go_wp2;clear hW;refine wp_region_still_tail 15 oJ oJ ?_;simp only[List.take_succ_cons,List.take_zero,List.drop_succ_cons,AU]
 repeat still_step
 still_call (Tryz.cmp_Compare_int p.1.fld q.1.fld _)
 repeat still_step
 still_call (cmp_str_c p.1.word q.1.word _)
 repeat still_step
 still_call (Tryz.cmp_Compare_int p.1.id q.1.id _)
 try refine wpStill_nil ?_
 change E2 _ _ _ _ _ W.drew;obtain⟨wq,hwq⟩:∃ wq,W.drew=wq:=⟨_,rfl⟩;have HQ:=J hwq;rw[hwq];clear hwq;go_wp2_with (go_at_call 50;refine (cmp_or_c (DR p.1.fld q.1.fld) (Ix.cmpB p.1.word q.1.word) (DR p.1.id q.1.id) wq.heap.size _ oZ oZ oZ).mono ?_;rintro e w' ⟨rfl,rfl⟩);go_ret;exact⟨rfl,Ix.grow_three HW.out HQ.out _⟩
theorem ix_order_enters:∀ args w,(callFunc 121 args).run A8 w=.ok (.enter 121 args) w:=enters_of Tryz.func121 oJ rfl
instance:Inhabited C5:=⟨(⟨0,[],0,[]⟩,A0,0)⟩
namespace Ix
open Go.Sort (putRow putCells mapBlock onCells flatK)
theorem ltK_congr {x y z:Post} (h:sameK x y):ltK x z=ltK y z:=by
 unfold ltK;rw[h.1,h.2.1,h.2.2]
theorem swoP:Go.Sort.SWO (fun x y:PT=>ltK x.1 y.1) where
 irrefl x:=ltK_irrefl x.1
 trans x y z h1 h2:=ltK_trans h1 h2
 ntrans x y z h1 h2:=by
  by_cases hs:sameK x.1 y.1
  ·rw[ltK_congr hs];exact h2
  ·have h3:=ltK_tri h1 hs;rw[Bool.eq_false_iff];intro h4;have h5:=ltK_trans h3 h4;rw[h2]at h5;cases h5
theorem flat_list (d:Array PT):(flatK encP 4 d).toList=d.toList.flatMap encP:=by
 apply KB;intro t;rcases D5 t (d.size*4) with h | h
 ·have hk:t / 4<d.toList.length:=by rw[Ia];omega
  obtain⟨x,hx⟩:∃ x,d.toList[t / 4]?=A3 x:=⟨_,Ai hk⟩;have h1:=Br.flat_at encP 4 encP_len d.toList (t / 4) (t % 4) x hx oQ;rw[show t / 4*4+t % 4=t by omega]at h1;rw[h1,EA,JL eJ,<- getElem!_pos (flatK encP 4 d) t eJ,Go.Sort.get_flatK _ _ _ _ h]
  have hx2:d[t / 4]! = x:=by
   rw[EA]at hx;rw[getElem!_def,hx]
  rw[hx2];have h3:t % 4<(encP x).length:=by rw[encP_len];omega
  rw[getElem!_pos (encP x) (t % 4) h3,Ai h3]
 ·rw[Ez (by rw[Ia,Go.Sort.size_flatK];exact h),Ez (by rw[Br.flat_len encP 4 encP_len,Ia];exact h)]
theorem holds_of_rows {w:Ab}{g:Nat}{cur:Array Ak}{e:Bo}{T:List PT} (hb:w.heap[g]?=A3 (.cells cur e (0,0))) (ht:cur.toList.take (T.length*4)=T.flatMap encP):Go.Sort.HoldsK encP 4 w g 0 T.toArray:=by
 intro j hj;have hj':j<T.length*4:=by simpa using hj
 refine⟨?_,by simp[World.frozen?,hb]⟩;have h1:(cur.toList.take (T.length*4))[j]?=(T.flatMap encP)[j]?:=by rw[ht]
 rw[I0 hj']at h1;simp only[World.cell?,hb,Nat.zero_add];have h2:=flat_list T.toArray;simp only[]at h2;rw[<- h2,EA,EA]at h1;rw[h1,JL hj,getElem!_pos _ j hj];rfl
theorem heap_sortedP {w:Ab}{g n:Nat}{os:Array Obj}{cur:Array Ak}{e:Bo}{fr:Nat × Nat} (F:Array Ak) (hb:w.heap[g]?=A3 (.cells cur e fr)) :
  (grow (putRow id (Lm w n) g 0 F) os).heap[g]?=A3 (.cells (putCells id 0 F cur) e fr):=by
 have hg:g<w.heap.size:=(AA.1 hb).1;rw[Go.Sort.heap_grow_old _ _ (by simpa using hg)];simp[putRow,mapBlock,Lm,Dy,hb,onCells]
theorem grownBy_sortedP {w:Ab}{g n:Nat}{os:Array Obj} (F:Array Ak):w.grownBy (grow (putRow id (Lm w n) g 0 F) os) (A3 g):=by
 refine⟨rfl,rfl,rfl,oZ,fun k hk hne=>?_⟩;rw[Go.Sort.heap_grow_old _ _ qX];have:g≠k:=fun e=>hne (by rw[e]);simp[putRow,mapBlock,Lm,Dy,this]
theorem take_putCellsP (cur:Array Ak) (F:Array Ak) (h:F.size<=cur.size):(putCells id 0 F cur).toList.take F.size=F.toList:=by
 apply KB;intro j;by_cases hj:j<F.size
 ·rw[I0 hj,EA];simp[putCells,hj,show j<cur.size by omega]
 ·rw[List.getElem?_take_eq_none oQ,Ez oW]
theorem ownsRow_sortedP {w:Ab}{base g cap n m:Nat}{e:Bo}{os:Array Obj}{cur:Array Ak}{F:Array Ak} (hl:F.size=m*4) (hbase:base<=g) (hb:w.heap[g]?=A3 (.cells cur e (0,0)))
  (h1:m<=cap) (h2:cap<=Ap) (h3:cur.size=cap*4) :
  (grow (putRow id (Lm w n) g 0 F) os).ownsRow base e 4 (.slice (A3 ⟨g,0,A0⟩) m cap) m F.toList :=
 ⟨by simp[hl],.inr ⟨g,cap,_,rfl,hbase,heap_sortedP _ hb,h1,h2,by simp[putCells,h3],by rw[<- hl];exact take_putCellsP cur F oQ⟩⟩
end Ix
theorem ix_sort_c (blk cap:Nat) (d:Array C5) (w:Ab) (hH:Go.Sort.HoldsK GQ 4 w blk 0 d) (hblk:blk<w.heap.size) (hsz:d.size<1000000000000) :
  Af A8 120 #[.slice (A3 ⟨blk,0,A0⟩) d.size cap,.func (.func 121) #[] #[]] w fun e w'=>e=.returned (.tuple #[])/\∃ d' n os,Go.Sort.PermIn 0 d.size d d'/\Go.Sort.SortedIn (fun x y:C5=>Ix.ltK x.1 y.1) 0 d.size d'/\w'=sortWorldK GQ 4 w blk 0 n d' os:=by
 have hlt:ltOf (fun x y:C5=>Ix.cmpP x.1 y.1)=fun x y:C5=>Ix.ltK x.1 y.1:=by funext x y;exact Ix.cmpP_lt x.1 y.1
 have h:=AnyQ.slices_SortFunc Tryz.sortPost 4 Tryz.isAgg100 Tryz.sizeOf100 GQ Ix.encP_len Ix.p_one (fun x y:C5=>Ix.cmpP x.1 y.1) (by rw[hlt];exact Ix.swoP) 121 #[] blk 0 cap d w ix_order_enters (fun _ _ _ _ x y=>ix_order_c x y _) hH hblk oQ;rw[hlt]at h;exact h
theorem ix_sorted_c {v:Ak}{T:List C5}{B:Nat}{w:Ab} (h:Ko w B v T) (hl:T.length<1000000000000) :
  Af A8 120 #[v,.func (.func 121) #[] #[]] w fun e w'=>e=.returned (.tuple #[])/\∃ S:List C5,S.Perm T/\(S.Pairwise fun x y=>Ix.ltK y.1 x.1=false)/\Ko w' B v S/\w.grownBy w' v.ownBlock:=by
 rcases h.2 with⟨rfl,h0⟩ | ⟨g,cap,cur,rfl,hbase,hb,h1,h2,h3,h4⟩
 ·have hnil:=zox;subst hnil;refine (AnyF.slices_SortFunc_none Tryz.sortPost A0 0 (.func (.func 121) #[] #[]) w).mono fun e w' ⟨he,hw⟩=>?_;subst hw;exact⟨he,[],List.Perm.refl _,List.Pairwise.nil,AI _ _ _ _,⟨rfl,rfl,rfl,Ad _,fun _ _ _=>rfl⟩⟩
 ·have hH:=Ix.holds_of_rows hb h4;refine (ix_sort_c g cap T.toArray w hH (AA.1 hb).1 (by simpa using hl)).mono fun e w' ⟨he,d',n,os,hp,hs,hw⟩=>?_;subst hw;have hsz:d'.size=T.length:=by have:=hp.1;simpa using this
  have hperm:d'.toList.Perm T:=by
   have h5:=hp.2.2;have e1:d'.extract 0 T.toArray.size=d':=by simp[<- hsz]
   have e2:T.toArray.extract 0 T.toArray.size=T.toArray:=oZ;rw[e1,e2]at h5;exact h5
  refine⟨he,d'.toList,hperm,?_,?_,Ix.grownBy_sortedP _⟩
  ·rw[List.pairwise_iff_getElem];intro i j hi hj hij;have h6:=hs i j (Am _) hij (by simp;rw[<- hsz];simpa using hj);rw[getElem!_pos d' i iD,getElem!_pos d' j UF]at h6;exact h6
  ·have h7:=Ix.ownsRow_sortedP (n:=n) (os:=os) (F:=Go.Sort.flatK GQ 4 d') (m:=T.length) (by rw[Go.Sort.size_flatK,hsz]) hbase hb h1 h2 h3;rw[Ix.flat_list]at h7;unfold Ko;rw[show d'.toList.length=T.length from by rw[Ia,hsz]];exact h7
end
namespace Ix
open Rc
def intE (v:Ak):Option (Eh Unit × List MemPlace):=match v with
 | .int .i64 n=>A3 (.lit (.int .i64 n),[])
 | _=>A0
theorem intE_some {v:Ak}{n:Int}{ps:List MemPlace} (h:intE v=A3 (.lit (.int .i64 n),ps)):v=.int .i64 n:=by
 unfold intE at h;split at h
 ·simp at h;rw[h.1]
 ·cases h
structure SMap (w:Ab) (M n:Nat) (f:By->Option Nat):Prop where
 d:∃ D:Eh Unit,w.ownsMap A8 9 intE M n D/\∀ x:By,x.length<=9223372036854775807->Maps.has D (.string x)=(f x).isSome/\D.atKey (.string x) (.lit (.int .i64 0))=.lit (.int .i64 (match f x with | some k=>(k:Int) | none=>0))
theorem skey:Maps.Keyed A8 9:=Maps.string_keyed BA
theorem szero (w:Ab):(zeroValue 3).run A8 w=.ok (.int .i64 0) w:=by kernel_rfl
theorem SMap.of_block {w w':Ab}{M n:Nat}{f:By->Option Nat} (h:SMap w M n f) (hb:w'.heap[M]?=w.heap[M]?):SMap w' M n f:=by
 obtain⟨D,⟨es,clock,h1,h2⟩,h3⟩:=h.d;exact⟨D,⟨es,clock,hb.trans h1,h2⟩,h3⟩
theorem SMap.lt {w:Ab}{M n:Nat}{f:By->Option Nat} (h:SMap w M n f):M<w.heap.size:=by
 obtain⟨D,h1,_⟩:=h.d;exact h1.lt
theorem SMap.obj {w:Ab}{M n:Nat}{f:By->Option Nat} (h:SMap w M n f):∃ es c,w.heap[M]?=A3 (.map es c):=by
 obtain⟨D,⟨es,clock,h1,_⟩,_⟩:=h.d;exact⟨es,clock,h1⟩
theorem SMap.made (w:Ab):SMap (w.alloc (.map #[] 0)) w.heap.size 0 (fun _=>A0) :=
 ⟨⟨.map [],World.ownsMap_made _ _ _ _,fun _ _=>⟨rfl,rfl⟩⟩⟩
section
variable {w : Ab} {ops : Array Hz} {rest : List Hz} {o : Hz} {a : Act} {Q : Exit -> Act -> Ab -> Prop} {M n : Nat} {f : By -> Option Nat}
theorem keyS (x:By) (h:x.length<=9223372036854775807):keyOf A8 9 (.string ⟨x.toArray⟩)=A3 (.string x) :=
 Go.WideMaps.keyOf_string_mk BA (by unfold Ap;show x.toArray.size<=_;simpa using h)
theorem smap_look {x:By} (hp:SMap w M n f) (hw:x.length<=9223372036854775807) (hg:o.guard=A0) (m k:Ib) (hop:o.op=Op.lookup 207 m k true)
  (hm:a.eval m=.map (A3 M)) (hx:a.eval k=.string ⟨x.toArray⟩) (hK:E2 A8 ops Q rest (a.put o.dst (.tuple #[.int .i64 (match f x with | some k=>(k:Int) | none=>0),.bool (f x).isSome])) w):E2 A8 ops Q (o::rest) a w:=by
 obtain⟨D,h1,h2⟩:=hp.d;obtain⟨h3,h4⟩:=h2 x hw;refine wpList_lookup_own_ok w hg m k _ hop 9 3 skey Tryz.underlying207 intE (szero w) (.lit (.int .i64 0)) [] rfl M n D hm h1 _ _ hx (keyS x hw) fun v ps hv=>?_;rw[h4]at hv;obtain rfl:=intE_some hv;rw[h3];exact hK
theorem smap_put {x:By}{k:Nat} (hp:SMap w M n f) (hn:n<Ap) (hw:x.length<=9223372036854775807) (hg:o.guard=A0) (m y v:Ib) (hop:o.op=Op.mapUpdate 207 m y v)
  (hm:a.eval m=.map (A3 M)) (hx:a.eval y=.string ⟨x.toArray⟩) (hv:a.eval v=.int .i64 k)
  (hK:∀ w',SMap w' M (n+1) (fun y=>if y=x then A3 k else f y)->w.grownBy w' (A3 M)->E2 A8 ops Q rest (a.put o.dst undef) w'):E2 A8 ops Q (o::rest) a w:=by
 obtain⟨D,h1,h2⟩:=hp.d;refine M7 w hg m y v _ hop 9 3 skey Tryz.underlying207 intE M n D hm h1 hn _ _ _ hx hv (keyS x hw) (.lit (.int .i64 k)) [] rfl fun w' h3 h4=>?_;refine hK w' ⟨⟨_,h3,fun y hy=>?_⟩⟩ h4;have ht:=(h1.tidy skey).isMap;by_cases hyb:y=x
 ·subst hyb;have hk:JM (Lit.string y):=trivial;rw[if_pos rfl,Maps.has_put_same ht hk,Maps.atKey_put_same ht hk];exact⟨rfl,rfl⟩
 ·have hne:Lit.string y≠Lit.string x:=fun e=>hyb (by injection e);rw[if_neg hyb,Maps.has_put_other hne,M8 hne];exact h2 y hy
end
def posF:List By->By->Option Nat
 | [],_=>A0
 | y::r,x=>if y=x then A3 0 else (posF r x).map (·+1)
theorem posF_none:∀ {l:List By}{x:By},x ∉ l->posF l x=A0
 | [],_,_=>rfl
 | y::r,x,h=>by
  rw[AL,not_or]at h;unfold posF;rw[if_neg (fun e=>h.1 e.symm),posF_none h.2];rfl
theorem posF_some:∀ {l:List By}{x:By},x∈l->∃ k,posF l x=A3 k/\l[k]?=A3 x
 | [],_,h=>by cases h
 | y::r,x,h=>by
  unfold posF;by_cases e:y=x
  ·exact⟨0,by rw[if_pos e],by simp[e]⟩
  ·obtain⟨k,h1,h2⟩:=posF_some (l:=r) (x:=x) (by
    rcases AL.1 h with h | h
    ·exact absurd h.symm e
    ·exact h)
   exact⟨k+1,by rw[if_neg e,h1];rfl,by simpa using h2⟩
theorem posF_snoc:∀ {l:List By}{y:By} (x:By),y ∉ l->posF (l++[y]) x=if x=y then A3 l.length else posF l x
 | [],y,x,_=>by
  by_cases e:x=y
  ·rw[if_pos e,e];simp[posF]
  ·have e2:¬ y=x:=fun e2=>e e2.symm;rw[if_neg e];simp[posF,e2]
 | z::r,y,x,h=>by
  rw[AL,not_or]at h;rw[List.cons_append,posF,posF,posF_snoc x h.2];by_cases e:x=y
  ·have:¬ z=x:=fun e2=>h.1 (by rw[e2,e]);rw[if_pos e,if_neg this,if_pos e];rfl
  ·rw[if_neg e,if_neg e]
theorem own_ne2 {w:Ab}{B B2 e e2 s s2 n n2:Nat}{v v2:Ak}{xs xs2:List Ak} (h:w.ownsRow B e s v n xs) (h2:w.ownsRow B2 e2 s2 v2 n2 xs2) (he:e≠e2):∀ g,v.ownBlock=A3 g->v2.ownBlock≠A3 g:=by
 intro g hg hg2;rcases h.2 with⟨rfl,_⟩ | ⟨b,cap,cur,rfl,_,hb,_⟩
 ·cases hg
 ·rcases h2.2 with⟨rfl,_⟩ | ⟨b2,cap2,cur2,rfl,_,hb2,_⟩
  ·cases hg2
  ·have hg':b=g:=by injection hg
   have hg2':b2=g:=by injection hg2
   subst hg';subst hg2';rw[hb]at hb2;injection hb2 with hb2;injection hb2 with _ hb2;exact he hb2
theorem y2w (h:P:=by
 obtain⟨es,cl,hM⟩:=hM.obj;rcases h.2 with⟨rfl,_⟩ | ⟨b,cap,cur,rfl,_,hb,_⟩
 ·cases e
 ·have e':b=M:=by injection e
  subst e';rw[hM]at hb;cases hb):P:=h
theorem own_ne_map2 {w:Ab}{B e size n M m:Nat}{v:Ak}{xs:List Ak}{f:By->Option Nat} (h:w.ownsRow B e size v n xs) (hM:SMap w M m f):v.ownBlock≠A3 M:=fun e=>by
 exact y2w
abbrev atV (t:PT):Ak:=.slice t.2.1 t.1.at_.length t.2.2
abbrev AtO (w:Ab) (B:Nat) (t:PT):Prop:=w.ownsRow B 3 1 (atV t) t.1.at_.length (t.1.at_.map (B3 .i64))
structure PosS (w:Ab) (B:Nat) (v:Ak) (T:List PT):Prop where
 own:OwnP w B v T
 rows:∀ t∈T,AtO w B t
 sep:∀ (i j:Nat) s t,i≠j->T[i]?=A3 s->T[j]?=A3 t->∀ g,(atV s).ownBlock=A3 g->(atV t).ownBlock≠A3 g
theorem PosS.nil (w:Ab) (B:Nat):PosS w B (.slice A0 0 0) []:=⟨AI _ _ _ _,eZ,(fun i j s t _ hi=>by simp at hi)⟩
theorem PosS.below {w w':Ab}{B:Nat}{v:Ak}{T:List PT} (h:PosS w B v T) (hb:Aa w.heap.size w w'):PosS w' B v T :=
 ⟨B4 h.own hb,fun t ht=>B4 (h.rows t ht) hb,h.sep⟩
theorem PosS.kept {w w':Ab}{B:Nat}{v:Ak}{T:List PT}{row:Option Nat} (h:PosS w B v T) (hg:w.grownBy w' row) (h1:∀ g,v.ownBlock=A3 g->row≠A3 g) (h2:∀ t∈T,∀ g,(atV t).ownBlock=A3 g->row≠A3 g):PosS w' B v T:=by
 have key:∀ {u:Ak},(∀ g,u.ownBlock=A3 g->row≠A3 g)->u.ownBlock=A0\/u.ownBlock≠row:=fun {u} hu=>by
  cases hv:u.ownBlock with
  | none=>exact .inl rfl
  | some j=>exact .inr (fun e=>hu j hv e.symm)
 exact⟨h.own.kept hg (key h1),fun t ht=>(h.rows t ht).kept hg (key (h2 t ht)),h.sep⟩
theorem PosS.push {w w':Ab}{B:Nat}{v v':Ak}{T:List PT}{p:Post} (h:PosS w B v T) (hp:p.at_=[]) (hg:w.grownBy w' v.ownBlock) (hown:OwnP w' B v' (T++[(p,A0,0)])):PosS w' B v' (T++[(p,A0,0)]):=by
 refine⟨hown,fun t ht=>?_,?_⟩
 ·rcases AQ.1 ht with ht | ht
  ·have h1:=h.rows t ht;refine h1.kept hg ?_;cases hv:(atV t).ownBlock with
   | none=>exact .inl rfl
   | some j=>exact .inr (fun e=>own_ne2 h1 h.own oX j hv e.symm)
  ·rw[B9]at ht;rw[ht];unfold AtO atV;simp only[hp];exact AI _ _ _ _
 ·intro i j s t hij hi hj g hs ht
  have key:∀ {j:Nat}{t:PT},(T++[(p,A0,0)])[j]?=A3 t->(j<T.length/\T[j]?=A3 t)\/t=(p,A0,0):=fun {j}{t} hj=>by
   rcases D5 j T.length with h1 | h1
   ·rw[List.getElem?_append_left h1]at hj;exact .inl ⟨h1,hj⟩
   ·rw[BE h1]at hj;exact .inr (B9.1 (AJ hj))
  rcases key hi with⟨_,hi⟩ | hi
  ·rcases key hj with⟨_,hj⟩ | hj
   ·exact h.sep i j s t hij hi hj g hs ht
   ·rw[hj]at ht;cases ht
  ·rw[hi]at hs;cases hs
theorem flat_set:∀ (T:List PT) (k:Nat) (t t':PT) (u:Ak),T[k]?=A3 t->encP t'=(encP t).set 3 u->(T.set k t').flatMap encP=(T.flatMap encP).set (k*4+3) u
 | [],k,t,t',u,h,_=>by simp at h
 | y::r,0,t,t',u,h,he=>by
  have h0:y=t:=by simpa using h
  subst h0;rw[List.set_cons_zero,CU,CU,he];rfl
 | y::r,k+1,t,t',u,h,he=>by
  have ih:=flat_set r k t t' u eJ he;rw[List.set_cons_succ,CU,CU,ih,List.set_append,if_neg (by rw[encP_len];omega),encP_len,show (k+1)*4+3 - 4=k*4+3 by omega]
theorem own_cell_set {w:Ab}{B g cap k:Nat}{T:List PT}{t t':PT}{u:Ak} (h:OwnP w B (.slice (A3 ⟨g,0,A0⟩) T.length cap) T) (hk:T[k]?=A3 t) (he:encP t'=(encP t).set 3 u):OwnP (w.setCell ⟨g,k*4+3,A0⟩ u) B (.slice (A3 ⟨g,0,A0⟩) (T.set k t').length cap) (T.set k t'):=by
 unfold OwnP;rw[flat_set T k t t' u hk he,IB];refine⟨by rw[IB];exact h.1,?_⟩;rcases h.2 with⟨h1,_⟩ | ⟨b,cap2,cur,h1,h2,h3,h4,h5,h6,h7⟩
 ·cases h1
 ·have hb:b=g:=by injection h1 with h1;injection h1 with h1;injection h1 with h1;exact h1.symm
  have hc:cap2=cap:=by injection h1 with _ _ h1;exact h1.symm
  subst hb hc;refine .inr ⟨b,cap2,cur.setIfInBounds (k*4+3) u,rfl,h2,?_,h4,h5,by simpa using h6,?_⟩
  ·simp[World.setCell,Dy,h3]
  ·rw[Array.toList_setIfInBounds,<- h7,List.take_set]
theorem set_get {T:List PT}{k j:Nat}{t' t2:PT} (h:(T.set k t')[j]?=A3 t2):(j=k/\t2=t')\/(j≠k/\T[j]?=A3 t2):=by
 by_cases e:j=k
 ·subst e;rw[List.getElem?_set_self' ]at h;cases hj:T[j]? with
  | none=>rw[hj]at h;cases h
  | some y=>rw[hj]at h;simp at h;exact .inl ⟨rfl,h.symm⟩
 ·rw[Hi (fun e2=>e e2.symm)]at h;exact .inr ⟨e,h⟩
theorem row_set {w:Ab}{B e size n:Nat}{v:Ak}{xs:List Ak} (h:w.ownsRow B e size v n xs) (p:Aq) (u:Ak) (hne:∀ g,v.ownBlock=A3 g->g≠p.block):(w.setCell p u).ownsRow B e size v n xs:=by
 refine⟨h.1,?_⟩;rcases h.2 with h1 | ⟨g,cap,cur,rfl,h2,h3,h4⟩
 ·exact .inl h1
 ·exact .inr ⟨g,cap,cur,rfl,h2,(D4 _ _ _ _ (hne g rfl)).trans h3,h4⟩
theorem PosS.upd {w wA wq:Ab}{B g cap k:Nat}{T:List PT}{p:Post}{a a':Option Aq}{c c':Nat}{i:Int} (h:PosS w B (.slice (A3 ⟨g,0,A0⟩) T.length cap) T) (hA:Aa w.heap.size w wA) (hk:T[k]?=A3 (p,a,c))
  (hg:wA.grownBy wq (atV (p,a,c)).ownBlock) (hown:wq.ownsRow B 3 1 (.slice a' (p.at_.length+1) c') (p.at_.length+1) (p.at_.map (B3 .i64)++[.int .i64 i])) (hv:(E0 a' (p.at_.length+1) c').ownBlock=(atV (p,a,c)).ownBlock\/(E0 a' (p.at_.length+1) c').ownBlock=A3 wA.heap.size) :
  PosS (wq.setCell ⟨g,k*4+3,A0⟩ (.slice a' (p.at_.length+1) c')) B (.slice (A3 ⟨g,0,A0⟩) (T.set k (⟨p.fld,p.word,p.id,p.at_++[i]⟩,a',c')).length cap) (T.set k (⟨p.fld,p.word,p.id,p.at_++[i]⟩,a',c')):=by
 have h1:=h.below hA;have hmem:=AJ hk;have hrow:=h1.rows _ hmem
 have keyn:∀ {u:Ak},(∀ b,u.ownBlock=A3 b->(atV (p,a,c)).ownBlock≠A3 b)->u.ownBlock=A0\/u.ownBlock≠(atV (p,a,c)).ownBlock:=fun {u} hu=>by
  cases hv:u.ownBlock with
  | none=>exact .inl rfl
  | some j=>exact .inr (fun e=>hu j hv e.symm)
 have hownP:OwnP wq B (.slice (A3 ⟨g,0,A0⟩) T.length cap) T:=h1.own.kept hg (keyn (own_ne2 h1.own hrow oX));have hgb:(E0 (A3 ⟨g,0,A0⟩) T.length cap).ownBlock=A3 g:=rfl;have hlen:(E0 a' (p.at_++[i]).length c')=.slice a' (p.at_.length+1) c':=by rw[Ag];rfl
 refine⟨own_cell_set hownP hk (by simp[encP,Ag]),fun t2 ht2=>?_,?_⟩
 ·obtain⟨j,hj⟩:=List.getElem?_of_mem ht2;rcases set_get hj with⟨_,rfl⟩ | ⟨hne,hj⟩
  ·unfold AtO atV;simp only[Ag,AH,List.length_nil,AY,BX,Do];refine row_set hown _ _ (fun b hb e=>?_);exact own_ne2 hown hownP oX b hb (by rw[e];exact hgb)
  ·have hr2:=h1.rows t2 (AJ hj);have hr3:=hr2.kept hg (keyn (fun b hb=>h1.sep j k t2 _ hne hj hk b hb));exact row_set hr3 _ _ (fun b hb e=>own_ne2 hr3 hownP oX b hb (by rw[e];exact hgb))
 ·intro x y s t hxy hx hy b hs ht
  have hnew:∀ {j:Nat}{s:PT},j≠k->T[j]?=A3 s->∀ b,(atV s).ownBlock=A3 b->(E0 a' (p.at_.length+1) c').ownBlock≠A3 b:=fun {j}{s} hj hs b hb e=>by
   rcases hv with hv | hv
   ·rw[hv]at e;exact h1.sep j k s _ hj hs hk b hb e
   ·rw[hv]at e;have:=((h1.rows s (AJ hs)).lt b hb).2;injection e with e;omega
  rcases set_get hx with⟨hxk,rfl⟩ | ⟨hxk,hx⟩
  ·rcases set_get hy with⟨hyk,rfl⟩ | ⟨hyk,hy⟩
   ·omega
   ·exact hnew hyk hy b ht (by rw[<- hlen];exact hs)
  ·rcases set_get hy with⟨hyk,rfl⟩ | ⟨hyk,hy⟩
   ·exact hnew hxk hx b hs (by rw[<- hlen];exact ht)
   ·exact h1.sep x y s t hxy hx hy b hs ht
end Ix
namespace Tx
open Go.Lib
theorem lens_mem:∀ {l:List (List UInt8)}{x:List UInt8},x∈l->x.length<=lens l
 | y::r,x,h=>by
  rcases AL.1 h with rfl | h
  ·simp[lens]
  ·have:=lens_mem h;simp[lens]at this ⊢;omega
theorem words_good {l:List UInt8} (hv:valid l=true):(∀ w∈words l,valid w=true/\w≠[]/\w.length<=2*l.length)/\(words l).length<=2*l.length:=by
 have h1:=fieldsT_good sepW (foldS_valid hv);have h2:=foldS_len hv;unfold words;refine⟨fun w hw=>⟨(h1.1 w hw).1,(h1.1 w hw).2,?_⟩,oQ⟩;have:=lens_mem hw;omega
end Tx
namespace Ix
open Rc
def Wok (x:By):Prop:=x≠[]/\x.length<=10000000
theorem wordsF_ok {f:Fl} (h:Gd f) (codes:By):∀ x∈wordsF f codes,Wok x:=by
 intro x hx;unfold wordsF at hx;obtain⟨s,hs,hx⟩:=zqe;unfold allV at hs;obtain⟨y,hy,rfl⟩:=BG.1 hs;have hg:=h.2 y (Be.1 hy).1;have h1:=(Tx.words_good hg.2).1 x hx;have h2:=zop;exact⟨h1.2.1,by have:=h1.2.2;omega⟩
theorem pick_ok {p:Fl->Bool}{codes:By}{fs:List Fl} (h:∀ f∈fs,Gd f):∀ x∈pick p codes fs,Wok x:=by
 intro x hx;unfold pick at hx;obtain⟨f,hf,hx⟩:=zqe;exact wordsF_ok (h f (Be.1 hf).1) codes x hx
theorem nums_ok {fs:List Fl} (h:∀ f∈fs,Gd f):∀ x∈nums fs,Wok x:=by
 intro x hx;unfold nums at hx;obtain⟨f,hf,hx⟩:=zqe;unfold numF at hx;rw[Be]at hx;obtain⟨s,hs,rfl⟩:=BG.1 hx.1;unfold allV at hs;obtain⟨y,hy,rfl⟩:=BG.1 hs;have hg:=(h f (Be.1 hf).1).2 y (Be.1 hy).1;have h2:=zop;have h3:=plainB_len _ y.2.data.toList (Ad _);exact⟨by simpa using hx.2,oQ⟩
theorem term_ok {fs:List Fl} (h:∀ f∈fs,Gd f):∀ k,∀ x∈term fs k,Wok x
 | 0,x,hx=>by cases hx
 | 1,x,hx=>by
  rcases AQ.1 hx with hx | hx
  ·exact pick_ok h x hx
  ·exact pick_ok h x hx
 | 2,x,hx=>pick_ok h x hx
 | 3,x,hx=>pick_ok h x hx
 | 4,x,hx=>nums_ok h x hx
 | _+5,x,hx=>by cases hx
theorem termsTo_ok {fs:List Fl} (h:∀ f∈fs,Gd f):∀ k,∀ x∈termsTo fs k,Wok x
 | 0,x,hx=>by cases hx
 | k+1,x,hx=>by
  rw[termsTo_succ]at hx;rcases AQ.1 hx with hx | hx
  ·exact termsTo_ok h k x hx
  ·exact term_ok h (k+1) x hx
theorem terms_ok {fs:List Fl} (h:∀ f∈fs,Gd f) (f:Int):∀ x∈terms fs f,Wok x:=by
 intro x hx;by_cases h0:f=0
 ·rw[h0,terms_zero]at hx;rcases AQ.1 hx with hx | hx
  ·exact termsTo_ok h 4 x hx
  ·exact pick_ok h x hx
 ·unfold terms at hx;rw[if_neg h0]at hx;split at hx
  ·exact term_ok h _ x hx
  ·cases hx
open Rc
section
variable {w : Ab} {ops : Array Hz} {rest : List Hz} {o : Hz} {a : Act} {Q : Exit -> Act -> Ab -> Prop} {M n : Nat} {f : By -> Option Nat}
theorem smap_look_some {x:By}{q:Nat} (hp:SMap w M n f) (hf:f x=A3 q) (hw:x.length<=9223372036854775807) (hg:o.guard=A0) (m k:Ib) (hop:o.op=Op.lookup 207 m k true)
  (hm:a.eval m=.map (A3 M)) (hx:a.eval k=.string ⟨x.toArray⟩) (hK:E2 A8 ops Q rest (a.put o.dst (.tuple #[.int .i64 q,.bool true])) w):E2 A8 ops Q (o::rest) a w :=
 smap_look hp hw hg m k hop hm hx (by rw[hf];exact hK)
theorem smap_look_none {x:By} (hp:SMap w M n f) (hf:f x=A0) (hw:x.length<=9223372036854775807) (hg:o.guard=A0) (m k:Ib) (hop:o.op=Op.lookup 207 m k true)
  (hm:a.eval m=.map (A3 M)) (hx:a.eval k=.string ⟨x.toArray⟩) (hK:E2 A8 ops Q rest (a.put o.dst (.tuple #[.int .i64 0,.bool false])) w):E2 A8 ops Q (o::rest) a w :=
 smap_look hp hw hg m k hop hm hx (by rw[hf];exact hK)
end
theorem PosS.shape {w:Ab}{B:Nat}{v:Ak}{T:List PT} (h:PosS w B v T) {k:Nat}{t:PT} (hk:T[k]?=A3 t):∃ g cap,v=.slice (A3 ⟨g,0,A0⟩) T.length cap/\B<=g/\T.length<=cap/\cap<=Ap/\g<w.heap.size/\(∃ cur,w.heap[g]?=A3 (.cells cur 100 (0,0)))/\w.cell? ⟨g,k*4+3,A0⟩=A3 (atV t):=by
 rcases h.own.2 with⟨_,h1⟩ | ⟨g,cap,cur,rfl,hb,hg,h1,h2,_⟩
 ·have:=Ar h1;rw[this]at hk;simp at hk
 ·obtain⟨a,c,e,_,_,hx⟩:=Br.own_any encP_len h.own rfl;injection e with e1 _ e2;subst e1 e2;rcases hx with h3 | ⟨g2,e3,_,_,hc⟩
  ·rw[h3]at hk;simp at hk
  ·injection e3 with e3;injection e3 with e3;subst e3;exact⟨g,cap,rfl,hb,h1,h2,(AA.1 hg).1,⟨cur,hg⟩,hc k 3 t _ hk oQ rfl⟩
def mks (k id:Int) (t:List By) (l:List By):List Post:=l.map (mkp k id t)
theorem mks_old {k id:Int}{t:List By}{j:Nat}{y:By} (hy:t[j]?=A3 y) (hm:y∈t.take j) {q:Nat} (hq:(firsts (t.take j))[q]?=A3 y) :
  mks k id (t.take (j+1)) (firsts (t.take (j+1)))=(mks k id (t.take j) (firsts (t.take j))).set q ⟨k,y,id,places (t.take j) y++[(j:Int)]⟩:=by
 unfold mks;rw[firsts_take hy,if_pos hm,AB];have hql:=(Av.1 hq).1;apply KB;intro i;by_cases e:i=q
 ·subst e;rw[AP,hq,List.getElem?_set_self (by simpa using hql)];simp[mkp,places_take y hy]
 ·rw[Hi (fun e2=>e e2.symm),AP,AP];cases hi:(firsts (t.take j))[i]? with
  | none=>rfl
  | some x =>
   have hne:¬ y=x:=fun e2=>by
    subst e2;have hn:=firsts_nodup (t.take j);have hil:=(Av.1 hi).1;have h1:=(Av.1 hi).2;have h2:=(Av.1 hq).2;exact e ((List.getElem_inj hn).1 (h1.trans h2.symm))
   simp[mkp,places_take x hy,hne]
theorem mks_new {k id:Int}{t:List By}{j:Nat}{y:By} (hy:t[j]?=A3 y) (hm:y ∉ t.take j) :
  mks k id (t.take (j+1)) (firsts (t.take (j+1)))=mks k id (t.take j) (firsts (t.take j))++[⟨k,y,id,[(j:Int)]⟩]:=by
 unfold mks;rw[firsts_take hy,if_neg hm,AY];congr 1
 ·apply List.map_congr_left;intro x hx;have hne:¬ y=x:=fun e=>hm (by rw[e];exact firsts_mem.1 hx);simp[mkp,places_take x hy,hne]
 ·have h0:places (t.take j) y=[]:=placesF_nil hm;simp[mkp,places_take y hy,h0]
end Ix
theorem own_addr2 {w:Ab}{B e n:Nat}{a:Option Aq}{c:Nat}{xs:List Ak} (h:w.ownsRow B e 1 (.slice a n c) n xs) (hn:0<n):∃ g,a=A3 ⟨g,0,A0⟩:=by
 rcases h.2 with⟨_,h0⟩ | ⟨g,cap,cur,he,_⟩
 ·omega
 ·injection he with h1;exact⟨g,h1⟩
theorem own_sep {u v:Ak} (h:∀ g,u.ownBlock=A3 g->v.ownBlock≠A3 g):u.ownBlock=A0\/u.ownBlock≠v.ownBlock:=by
 cases hv:u.ownBlock with
 | none=>exact .inl rfl
 | some j=>exact .inr (fun e=>h j hv e.symm)
theorem own_cell_kept {wN w8:Ab}{B g cap:Nat}{T:List C5}{o:Obj}{row:Option Nat} (h:Ko wN B (.slice (A3 ⟨g,0,A0⟩) T.length cap) T) (hg:(wN.alloc o).grownBy w8 row) (hne:A3 g≠row):Ko w8 B (.slice (A3 ⟨g,0,A0⟩) T.length cap) T :=
 (h.alloc o).kept hg (.inr hne)
theorem own_shape2 {w:Ab}{B e s n:Nat}{v:Ak}{xs:List Ak} (h:w.ownsRow B e s v n xs):∃ a c,v=.slice a n c/\(∀ g,a=A3 g->v.ownBlock=A3 g.block):=by
 rcases h.2 with⟨rfl,h0⟩ | ⟨g,cap,cur,rfl,_⟩
 ·exact⟨A0,0,by rw[h0],fun g hg=>by cases hg⟩
 ·exact⟨_,cap,rfl,fun g hg=>by injection hg with hg;rw[<- hg];rfl⟩
theorem ycp (h:P:=by
 have h1:M≠g:=fun e=>Ix.own_ne_map2 HPS3.out.own HSM.out iQ;exact (D4 w8 ⟨g,K*4+3,A0⟩ _ M h1).trans ((hg8.block M (by simp;have:=HSM.out.lt;omega) (fun e=>Ix.own_ne_map2 HROW.out HSM.out e.symm)).trans (hp_alloc_lt HSM.out.lt _))):P:=h
theorem yd9 (h:P:=by
 have h1:=HON.out.alloc (.cells #[.int .i64 (j:Int)] 3);have h2:=h1.kept hg8 (own_sep (Ix.own_ne2 HON.out HROW.out oX));exact Ix.row_set h2 _ _ (fun b hb e=>Ix.own_ne2 h2 hown8P oX b hb iQ)):P:=h
theorem vmp (h:P:=by
 have hupd:=Ix.PosS.upd (i:=(j:Int)) HPS3.out (A9 _ _) HTK.out hg8 hown8 hv8;rw[IB]at hupd;have hb8:Aa W.heap.size W (w8.setCell ⟨g,K*4+3,A0⟩ (.slice a8 (PL.length+1) c8)):=((HBL.out.alloc HBL.out.size _).grown hg8 OY (fun i hi=>(HROW.out.lt i hi).1)).setCell (by show W.heap.size<=g;exact hBg) _;have hown8P:=own_cell_kept HPS3.out.own hg8 HGN.out
 have hO8:(w8.setCell ⟨g,K*4+3,A0⟩ (.slice a8 (PL.length+1) c8)).ownsRow W.heap.size 9 1 (.slice (A3 ⟨tb,0,A0⟩) ts.length tc) ts.length (ts.map Hf):=by
  exact yd9
 first
  |have hM8:(w8.setCell ⟨g,K*4+3,A0⟩ (.slice a8 (PL.length+1) c8)).heap[M]?=w7.heap[M]?:=by
    exact ycp
   have hSM8:=HSM.out.of_block hM8
   have HE9:Hid ((T3.set K ((⟨(k:Int),y,r.id,PL++[(j:Int)]⟩:Eg),a8,c8)).map (·.1)=En r k++Ix.mks k r.id (ts.take (j+1)) (Ek (ts.take (j+1)))):=J (by
    rw[List.map_set,HT3.out,AY,hE4.out,HMN.out,<- AW,List.set_append,if_neg (by rw[<- hE4.out,Ax,HKD.out];omega),<- hE4.out,Ax,HKD.out,F9,hPLe.out];rfl)
   have HS9:Hid (Ix.SMap (w8.setCell ⟨g,K*4+3,A0⟩ (.slice a8 (PL.length+1) c8)) M (n+1) (fun x=>(Ix.posF (Ek (ts.take (j+1))) x).map (L0+·))):=J (by
    have hfe:(fun x=>(Ix.posF (Ek (ts.take (j+1))) x).map (L0+·))=(fun z=>if z=y then A3 K else (fun x=>(Ix.posF (Ek (ts.take j)) x).map (L0+·)) z):=by
     funext x;rw[HFT.out,HSN.out];by_cases e:x=y
     ·rw[if_pos e,if_pos e,HKF.out];rfl
     ·rw[if_neg e,if_neg e]
    rw[hfe];exact hSM8)
   have hl9:(T3.set K ((⟨(k:Int),y,r.id,PL++[(j:Int)]⟩:Eg),a8,c8)).length<=L0+(j+1):=by rw[IB,HT3.out,Ag];simp;omega
   have HO9:=J hO8;go_roundw
   case rel=>exact⟨j+1,_,n+1,hlt2,by go_num,hupd,HE9,HS9,oQ,HO9,hl9,hb8⟩
   case measure=>simp[Aj];omega
  |have hM8:(w8.setCell ⟨g,K*4+3,A0⟩ (.slice a8 (PL.length+1) c8)).heap[M]?=wm.heap[M]?:=by
    exact ycp
   have hSM8:=HSM.out.of_block hM8
   have HE9:Hid ((T3.set K ((⟨(k:Int),y,r.id,PL++[(j:Int)]⟩:Eg),a8,c8)).map (·.1)=En r k++Ix.mks k r.id (ts.take (j+1)) (Ek (ts.take (j+1)))):=J (by
    rw[List.map_set,hE4.out,HMO.out,List.set_append,if_neg (by have:=HLP.out;have:=HKD.out;omega),show K - (En r k).length=q by have:=HLP.out;have:=HKD.out;omega])
   have HS9:Hid (Ix.SMap (w8.setCell ⟨g,K*4+3,A0⟩ (.slice a8 (PL.length+1) c8)) M n (fun x=>(Ix.posF (Ek (ts.take (j+1))) x).map (L0+·))):=J (by rw[HFT.out];exact hSM8);have hl9:(T3.set K ((⟨(k:Int),y,r.id,PL++[(j:Int)]⟩:Eg),a8,c8)).length<=L0+(j+1):=by rw[IB];omega
   have HO9:=J hO8;go_roundw
   case rel=>exact⟨j+1,_,n,hlt2,by go_num,hupd,HE9,HS9,oQ,HO9,hl9,hb8⟩
   case measure=>simp[Aj];omega):P:=h
theorem ix_posts_c (r:Rc.Rd) (ra:Option Aq) (rc:Nat) (w:Ab) (hG:G w) (hr:Bz w ra rc r.fields) (hM:EY r.fields) (hV:∀ f∈r.fields,GU f) :
  Af A8 119 #[.agg #[.int .i64 r.id,.int .i64 r.ver,.int .i64 r.kind,.string r.lang,.slice ra r.fields.length rc]] w fun e w'=>(∃ v T,e=.returned v/\Ko w' w.heap.size v T/\Ix.Ats w' T/\(∀ t∈T,∀ g,t.2.1=A3 g->w.heap.size<=g.block)/\T.map (·.1)=Ix.posts r/\Dl T<=50000000/\Aa w.heap.size w w'):=by
 obtain⟨i0,hi0,hz0,hz1,hz2⟩:=zhb;have HI:=J hi0;clear hi0;obtain⟨i1,hi1,hy0,hy1,hy2⟩:=info_parts info_post;have HI1:=J hi1;clear hi1;obtain⟨W,hW⟩:∃ W,w.alloc (.cells #[.int .i64 r.id,.int .i64 r.ver,.int .i64 r.kind,.string r.lang,.slice ra r.fields.length rc] 51)=W:=⟨_,rfl⟩;have hB:=zi;have hbB:=hB.size;have KR:Hid (W.heap[w.heap.size]?=A3 (.cells #[.int .i64 r.id,.int .i64 r.ver,.int .i64 r.kind,.string r.lang,.slice ra r.fields.length rc] 51 (0,0))):=J iZ;have hmm:=zmk;go_enter Tryz.func119,Tryz.ntmps119;go_wp2;clear hW;go_loopw [3,4] (fun v f wr=>∃ (k:Nat) (T:List C5),k<=5/\f=.int .i64 k/\Ix.PosS wr W.heap.size v T/\Hid (T.map (·.1)=En r k)/\T.length<=10000000*k/\Aa W.heap.size W wr) (fun _ f _=>5 - (Aj f).toNat)
 case atStart=>exact⟨0,[],oQ,by go_num,Ix.PosS.nil _ _,J rfl,oZ,Ah _ _⟩
 case round =>
  obtain⟨k,T,hk,rfl,hPS,hE,hTl,hb⟩:=hrel;have hbs:=hb.size;by_cases hlt:k<5
  ·obtain⟨ts,hts⟩:∃ ts,JP r.fields (k:Int)=ts:=⟨_,rfl⟩;have htl:=Ix.terms_len hM (k:Int);rw[hts]at htl;have hk4:(k:Int)<=4:=oQ;have HPT:Hid (En r (k+1)=En r k++Ix.mks k r.id ts (Ek ts)):=J (by rw[En,hts];rfl);obtain⟨W1,hW1⟩:∃ W1,wr.alloc (.map #[] 0)=W1:=⟨_,rfl⟩;have hb1:=zmr;have hSM1:Ix.SMap W1 wr.heap.size 0 (fun _=>A0):=by rw[<- hW1];exact Ix.SMap.made wr
   obtain⟨e0,e1,e2,e3,e4,-⟩:=Tx.c5 (A6 (A6 KR.out hb) hb1)
   have CT:Hid (Af A8 62 #[.agg #[.int .i64 r.id,.int .i64 r.ver,.int .i64 r.kind,.string r.lang,.slice ra r.fields.length rc],.int .i64 (k:Int)] W1 fun e w'=>∃ v,e=.returned v/\Bd w' W1.heap.size v ts/\Aa W1.heap.size W1 w'):=J (by
    have hbb:=Ac hB (Ac hb hb1);have h9:=ix_Terms_c r.fields ra rc r.id r.ver r.kind r.lang (k:Int) W1 (hG.below hbb) (hr.below hbb) hM hV;rw[hts]at h9;exact h9)
   have HTS:=J hts;clear hts;have hs1:=hb1.size;go_wp2_with (go_at_call 62;(with_reducible refine CT.out.mono ?_);rintro e w2 ⟨v2,rfl,hown2,hb2⟩;obtain⟨ta,tc,rfl,hta⟩:=own_shape2 hown2;have HO2:=J (Ix.row_lower hown2 (Au hbs hs1));clear hown2);have hSM2:Ix.SMap w2 wr.heap.size 0 (fun _=>A0):=hSM1.of_block (hb2.block _ hSM1.lt);have hPS2:=(hPS.below hb1).below hb2;have hb3:=Ac hb (Ac hb1 hb2);obtain⟨M,hMd⟩:∃ M,wr.heap.size=M:=⟨_,rfl⟩;rw[hMd]at hSM2;rw[hMd];have HMB:Hid (W.heap.size<=M):=J (by rw[<- hMd];exact hbs);clear hW1 e0 e1 e2 e3 e4 CT hSM1 hMd;obtain⟨L0,hL0⟩:∃ L0,T.length=L0:=⟨_,rfl⟩;have HL0:=J hL0;rw[hL0]at hTl;clear hL0;go_loopw [3,19] (fun v i wr=>∃ (j:Nat) (T2:List C5) (n:Nat),j<=ts.length/\i=.int .i64 j/\Ix.PosS wr W.heap.size v T2/\Hid (T2.map (·.1)=En r k++Ix.mks k r.id (ts.take j) (Ek (ts.take j)))/\Hid (Ix.SMap wr M n (fun x=>(Ix.posF (Ek (ts.take j)) x).map (L0+·)))/\n<=j/\Hid (wr.ownsRow W.heap.size 9 1 (.slice ta ts.length tc) ts.length (ts.map Hf))/\T2.length<=L0+j/\Aa W.heap.size W wr) (fun _ i _=>ts.length - (Aj i).toNat)
   case atStart=>exact⟨0,T,0,oQ,by go_num,hPS2,J (by rw[hE.out];exact (AB _).symm),J hSM2,oQ,HO2,by rw[HL0.out];omega,hb3⟩
   case round =>
    obtain⟨j,T2,n,hj,rfl,hPS4,hE4,hSM4,hnj,hO4,hTl4,hb4⟩:=hrel;have hb4s:=hb4.size;obtain⟨wm,hwm⟩:∃ wm,wm=wr:=⟨_,rfl⟩;subst hwm;by_cases hlt2:j<ts.length
    ·obtain⟨y,hy⟩:∃ y,ts[j]?=A3 y:=⟨_,Ai hlt2⟩;obtain⟨tb,rfl⟩:=own_addr2 hO4.out oQ;have d0:wm.cell? ⟨tb,j,A0⟩=A3 (.string ⟨y.toArray⟩):=(hO4.out.cellAt j oQ).trans OG;have hyl:y.length<=9223372036854775807:=by have:=(Ix.terms_ok hV (k:Int) y (by rw[HTS.out];exact AJ hy)).2;omega
     by_cases hm:y∈ts.take j
     ·have hmf:=Ix.firsts_mem.2 hm;obtain⟨q,hpq,hfq⟩:=Ix.posF_some hmf;have hmo:=Ix.mks_old (k:=(k:Int)) (id:=r.id) hy hm hfq;have hft:=Ix.firsts_take hy;rw[if_pos hm,AB]at hft;obtain⟨K,hKd⟩:∃ K,L0+q=K:=⟨_,rfl⟩;have hLp:=zja
      have hpk:(T2.map (·.1))[K]?=A3 (Ix.mkp (k:Int) r.id (ts.take j) y):=by
       rw[hE4.out,<- hKd,BE oQ,hLp,Nat.add_sub_cancel_left];unfold Ix.mks;rw[AP,hfq];rfl
      rw[AP,Option.map_eq_some_iff]at hpk;obtain⟨⟨p,pa,pc⟩,hTK,hpe⟩:=hpk;have hpe':p=⟨(k:Int),y,r.id,Ix.places (ts.take j) y⟩:=hpe;have hpl:=Ix.places_len (ts.take j) y;rw[Az]at hpl;obtain⟨PL,hPL⟩:∃ PL,Ix.places (ts.take j) y=PL:=⟨_,rfl⟩;rw[hPL]at hpe' hmo hpl;subst hpe';have HPL:Hid (PL.length<=10000000):=J oQ;have HTK:=J hTK;have hPS3:=hPS4;obtain⟨T3,hT3⟩:∃ T3,T3=T2:=⟨_,rfl⟩;subst hT3;obtain⟨g,cap,rfl,hBg,hTc,hcm,hgl,⟨cur,hcur⟩,e3⟩:=hPS3.shape hTK;have HGL:=J hgl;have E3:Hid (wm.cell? ⟨g,K*4+3,A0⟩=A3 (.slice pa PL.length pc)):=J (e3);have F3:=J ((Tx.blk hcur).2.1 (K*4+3));have hrow:wm.ownsRow W.heap.size 3 1 (.slice pa PL.length pc) PL.length (PL.map (B3 .i64)):=hPS3.rows _ (AJ hTK);have HROW:=J hrow;have HGN:Hid (A3 g≠Hr (.slice pa PL.length pc)):=J (fun e=>Ix.own_ne2 hPS3.own hrow oX g rfl e.symm);have HPS3:=J hPS3;have e3':=E3.out;have hKT:=ziv;have hK0:(0:Int)<=(K:Int):=oQ;clear hPS3 hrow hcur e3;have HSM:=hSM4;have HON:=hO4;have HBL:=J hb4;have HSMF:Hid ((fun x=>(Ix.posF (Ek (ts.take j)) x).map (L0+·)) y=A3 K):=J (by show (Ix.posF _ y).map _=_;rw[hpq,<- hKd];rfl);have HMO:=J hmo;have HFT:=J hft;have HKD:=J hKd;have HLP:=J hLp;clear hPL hmo hft hKd hLp hpq hfq hmf hTK hm hy hpe hpl hPS4
      go_wp2_with (first
       |(at_builtin;refine wpList_append_sl rfl _ _ 35 rfl W.heap.size 3 i0 _ 1 8 Bk HI.out hz0 hz1 hz2 rfl oX _ PL.length _ rfl (HROW.out.alloc _) (A3 ⟨_,0,A0⟩) 1 1 [.int .i64 (j:Int)] rfl rfl oF oD oG ztb (by have:=HPL.out;omega) OY ?_;intro v8 w8 hown8 hg8 hv8;obtain⟨a8,c8,rfl,_⟩:=own_shape2 hown8;have e8:=zfa;have f8:=zcs;have s8:=hg8.size;have g8:=zpd)
       |(at_lookup;go_must (refine Ix.smap_look_some HSM.out HSMF.out hyl rfl _ _ rfl rfl rfl ?_)))
      exact vmp
     ·have hmn:=Ix.mks_new (k:=(k:Int)) (id:=r.id) hy hm;have hft:=Ix.firsts_take hy;rw[if_neg hm]at hft;have hnf:y ∉ Ek (ts.take j):=fun h9=>hm (Ix.firsts_mem.1 h9);have hpn:=Ix.posF_none hnf;have HSN:Hid (∀ x,Ix.posF (Ek (ts.take j)++[y]) x=if x=y then A3 (Ek (ts.take j)).length else Ix.posF (Ek (ts.take j)) x):=J (fun x=>Ix.posF_snoc x hnf);obtain⟨PL,hPL0⟩:∃ PL:List Int,PL=[]:=⟨_,rfl⟩;have hPLe:=J hPL0;have HPL:Hid (PL.length<=10000000):=J (by rw[hPL0];simp);have hLp:=zja;obtain⟨K,hKd⟩:∃ K,T2.length=K:=⟨_,rfl⟩;have HKD:=J hKd;have HTL:Hid (T2.length<=100000000):=J oQ
      have hKf:K=L0+(Ek (ts.take j)).length:=by
       have:=congrArg Dl hE4.out;rw[Ax,Ag,hLp]at this;unfold Ix.mks at this;rw[Ax]at this;omega
      have HKF:=J hKf;have HMN:=J hmn;have HFT:=J hft;obtain⟨a4,c4',rfl,_⟩:=own_shape2 hPS4.own;have HPS0:=J hPS4;have HSM0:=hSM4;have HNM:Hid (n<Ap):=J oK;have hlK:(T2.length:Int)=(K:Int):=by rw[hKd]
      obtain⟨er,-⟩:=Tx.c1 (A6 KR.out hb4);have ERL:Hid (w.heap.size<wm.heap.size):=J (AN (AA.1 KR.out).1 hb4s);have ERN:Hid (A3 w.heap.size≠A3 M):=J (fun e=>by injection e with e;have h1:=HMB.out;have h2:=(AA.1 KR.out).1;omega);have HSMF:Hid ((fun x=>(Ix.posF (Ek (ts.take j)) x).map (L0+·)) y=A0):=J (by show (Ix.posF _ y).map _=_;rw[hpn];rfl);clear hmn hft hnf hpn hPL0 hLp hKf hm hy hPS4 hKd
      go_wp2_with (first
       |(at_builtin;refine wpList_append_sl rfl _ _ 22 rfl W.heap.size 100 i1 _ 4 56 Tryz.underlying22 HI1.out hy0 hy1 hy2 rfl oX _ T2.length _ rfl (HPSA.out.own.alloc _) (A3 ⟨_,0,A0⟩) 1 1 (GQ ((⟨(k:Int),y,r.id,PL⟩:Eg),A0,0)) rfl rfl oF (fun ad had=>by cases had;rw[hPLe.out];exact Br.cells_new_at _ _ oY #[.int .i64 (k:Int),.string ⟨y.toArray⟩,.int .i64 r.id,.slice A0 0 0] _) (Ix.p_one ((⟨(k:Int),y,r.id,PL⟩:Eg),A0,0)) (by unfold Ap;have:=HTL.out;omega) (by have:=HTL.out;omega) (by simp;have:=HBA.out.size;omega) ?_;intro v7 w7 hown7 hg7 hv7;obtain⟨T3,hT3⟩:∃ T3,T3=T2++[((⟨(k:Int),y,r.id,PL⟩:Eg),A0,0)]:=⟨_,rfl⟩;have hPS3:Ix.PosS w7 W.heap.size v7 T3:=(by rw[hT3];exact Ix.PosS.push (HPSA.out.below (A9 _ _)) hPLe.out hg7 (Ix.own_snoc hown7));have hTK:T3[K]?=A3 ((⟨(k:Int),y,r.id,PL⟩:Eg),A0,0):=(by rw[hT3,<- HKD.out,BE (Ad _),F9];rfl);have HTK:=J hTK;have HT3:=J hT3;obtain⟨g,cap,rfl,hBg,hTc,hcm,hgl,⟨cur,hcur⟩,e3⟩:=hPS3.shape hTK;have HGL:=J hgl;have E3:Hid (w7.cell? ⟨g,K*4+3,A0⟩=A3 (.slice A0 0 0)):=J (e3.trans (by rw[hPLe.out];rfl));have F3:=J ((Tx.blk hcur).2.1 (K*4+3));have hrow:w7.ownsRow W.heap.size 3 1 (.slice A0 0 0) PL.length (PL.map (B3 .i64)):=(by rw[hPLe.out];exact AI _ _ _ _);have HROW:=J hrow;have HGN:Hid (A3 g≠Hr (.slice A0 0 0)):=J (fun e=>Ix.own_ne2 hPS3.own hrow oX g rfl e.symm);have HPS3:=J hPS3;have e3':=E3.out;have hKT:=ziv;have hK0:(0:Int)<=(K:Int):=oQ;clear hPS3 hrow hcur e3;have hs7:=hg7.size;have HBL:Hid (Aa W.heap.size W w7):=J ((HBA.out.alloc HBA.out.size _).grown hg7 (by simp;have:=HBA.out.size;omega) (fun i hi=>(HPSA.out.own.lt i hi).1));have HON:Hid (w7.ownsRow W.heap.size 9 1 (.slice (A3 ⟨tb,0,A0⟩) ts.length tc) ts.length (ts.map Hf)):=J ((HOA.out.alloc _).kept hg7 (own_sep (Ix.own_ne2 HOA.out HPSA.out.own oX)));have hM7:w7.heap[M]?=wa.heap[M]?:=((hg7.block M (by simp;have:=HSMA.out.lt;omega) (fun e=>Ix.own_ne_map2 HPSA.out.own HSMA.out e.symm)).trans (hp_alloc_lt HSMA.out.lt _));have HSM:=J (HSMA.out.of_block hM7);clear hT3 hTK)
       |(at_builtin;refine wpList_append_sl rfl _ _ 35 rfl W.heap.size 3 i0 _ 1 8 Bk HI.out hz0 hz1 hz2 rfl oX _ PL.length _ rfl (HROW.out.alloc _) (A3 ⟨_,0,A0⟩) 1 1 [.int .i64 (j:Int)] rfl rfl oF oD oG ztb (by have:=HPL.out;omega) OY ?_;intro v8 w8 hown8 hg8 hv8;obtain⟨a8,c8,rfl,_⟩:=own_shape2 hown8;have e8:=zfa;have f8:=zcs;have s8:=hg8.size;have g8:=zpd)
       |(at_mapUpdate;go_must (refine Ix.smap_put (k:=K) HSM0.out HNM.out hyl rfl _ _ _ rfl rfl rfl rfl ?_);intro wa hma hga;have HSMA:=J hma;have hPSA:=HPS0.out.kept hga (fun b hb e=>Ix.own_ne_map2 HPS0.out.own HSM0.out (by rw[hb,<- e])) (fun t ht b hb e=>Ix.own_ne_map2 (HPS0.out.rows t ht) HSM0.out (by rw[hb,<- e]));have HPSA:=J hPSA;have HOA:=J (hO4.out.kept hga (.inr (Ix.own_ne_map2 hO4.out HSM0.out)));have HBA:=J (hb4.grown hga hb4s (fun i hi=>by injection hi with hi;rw[<- hi];exact HMB.out));have era:=(hga.cell_far ⟨w.heap.size,0,A0⟩ ERL.out ERN.out).trans er;clear hma hPSA)
       |(at_lookup;go_must (refine Ix.smap_look_none HSM0.out HSMF.out hyl rfl _ _ rfl rfl rfl ?_)))
      exact vmp
    ·obtain rfl:j=ts.length:=oQ;have hN:=hE4.out;rw[At,<- HPT.out]at hN;have HN:=J hN;clear hN hE4;have hl9:T2.length<=10000000*(k+1):=oQ;go_wp2;go_roundw
     case rel=>exact⟨k+1,T2,hlt,by go_num,hPS4,HN,hl9,hb4⟩
     case measure=>simp[Aj];omega
  ·obtain rfl:k=5:=oQ;have hN:=hE.out;rw[Ix.posts_to]at hN;have HN:=J hN;clear hN hE;go_wp2;go_ret;refine⟨_,T,rfl,Ix.row_lower hPS.own hbB,fun t ht=>?_,fun t ht g hg=>?_,HN.out,oQ,Ac hB hb⟩
   ·obtain⟨a,c,e,hia,_⟩:=Ix.IA.of_own (hPS.rows t ht) rfl;injection e with e1 _ e2;rw[e1,e2];exact hia
   ·obtain⟨a,c,e,_,hlo⟩:=Ix.IA.of_own (hPS.rows t ht) rfl;injection e with e1 _ e2;have:=hlo g (by rw[<- e1];exact hg);omega
namespace Ix
open Rc
structure NMap (w:Ab) (M n:Nat) (f:Int->Option Int):Prop where
 d:∃ D:Eh Unit,w.ownsMap A8 3 intE M n D/\∀ b,(Gv .i64 b).wf=true->Maps.has D (.int .i64 b)=(f b).isSome/\D.atKey (.int .i64 b) (.lit (.int .i64 0))=.lit (.int .i64 ((f b).getD 0))
theorem nkey:Maps.Keyed A8 3:=Maps.int_keyed B6
theorem NMap.of_block {w w':Ab}{M n:Nat}{f:Int->Option Int} (h:NMap w M n f) (hb:w'.heap[M]?=w.heap[M]?):NMap w' M n f:=by
 obtain⟨D,⟨es,clock,h1,h2⟩,h3⟩:=h.d;exact⟨D,⟨es,clock,hb.trans h1,h2⟩,h3⟩
theorem NMap.lt {w:Ab}{M n:Nat}{f:Int->Option Int} (h:NMap w M n f):M<w.heap.size:=by
 obtain⟨D,h1,_⟩:=h.d;exact h1.lt
theorem NMap.obj {w:Ab}{M n:Nat}{f:Int->Option Int} (h:NMap w M n f):∃ es c,w.heap[M]?=A3 (.map es c):=by
 obtain⟨D,⟨es,clock,h1,_⟩,_⟩:=h.d;exact⟨es,clock,h1⟩
theorem NMap.made (w:Ab):NMap (w.alloc (.map #[] 0)) w.heap.size 0 (fun _=>A0) :=
 ⟨⟨.map [],World.ownsMap_made _ _ _ _,fun _ _=>⟨rfl,rfl⟩⟩⟩
theorem NMap.look {w:Ab}{M n:Nat}{f:Int->Option Int} (h:NMap w M n f) {b r:Int} (hr:(f b).getD 0=r) (hw:(Gv .i64 b).wf=true):(Instr.lookup 133 (.map (A3 M)) (.int .i64 b) false).run A8 w=.ok (.int .i64 r) w:=by
 obtain⟨D,h1,h2⟩:=h.d;obtain⟨h3,h4⟩:=h2 b hw;obtain⟨v,ps,hrun,hv⟩:=h1.lookup nkey Tryz.underlying133 (szero w) (zd:=.lit (.int .i64 0)) (zp:=[]) rfl (KD B6 hw);rw[h4,hr]at hv;obtain rfl:=intE_some hv;exact hrun
section
variable {w : Ab} {ops : Array Hz} {rest : List Hz} {o : Hz} {a : Act} {Q : Exit -> Act -> Ab -> Prop} {M n : Nat} {f : Int -> Option Int}
theorem nmap_put {b r:Int} (hp:NMap w M n f) (hn:n<Ap) (hw:(Gv .i64 b).wf=true) (hg:o.guard=A0) (m x v:Ib) (hop:o.op=Op.mapUpdate 133 m x v)
  (hm:a.eval m=.map (A3 M)) (hx:a.eval x=.int .i64 b) (hv:a.eval v=.int .i64 r)
  (hK:∀ w',NMap w' M (n+1) (fun y=>if y=b then A3 r else f y)->w.grownBy w' (A3 M)->E2 A8 ops Q rest (a.put o.dst undef) w'):E2 A8 ops Q (o::rest) a w:=by
 obtain⟨D,h1,h2⟩:=hp.d;refine M7 w hg m x v _ hop 3 3 nkey Tryz.underlying133 intE M n D hm h1 hn _ _ _ hx hv (KD B6 hw) (.lit (.int .i64 r)) [] rfl fun w' h3 h4=>?_;refine hK w' ⟨⟨_,h3,fun y hy=>?_⟩⟩ h4;have ht:=(h1.tidy nkey).isMap;by_cases hyb:y=b
 ·subst hyb;have hk:JM (Gv .i64 y):=trivial;rw[if_pos rfl,Maps.has_put_same ht hk,Maps.atKey_put_same ht hk];exact⟨rfl,rfl⟩
 ·have hne:Gv .i64 y≠Gv .i64 b:=fun e=>hyb (by injection e);rw[if_neg hyb,Maps.has_put_other hne,M8 hne];exact h2 y hy
end
theorem own_ne_nmap {w:Ab}{B e size n M m:Nat}{v:Ak}{xs:List Ak}{f:Int->Option Int} (h:w.ownsRow B e size v n xs) (hM:NMap w M m f):v.ownBlock≠A3 M:=fun e=>by
 exact y2w
theorem chs_ids {l:List Rd}:∀ {k:Nat}{q:Rd},q∈l.take k->1<=q.id->q.id∈(chs l k).map (·.id)
 | 0,q,h,_=>by simp at h
 | k+1,q,h,h1=>by
  cases hk:l[k]? with
  | none =>
   rw[Dq zsf]at h;rw[chs,hk];exact chs_ids (k:=k) (by rw[Dq zsf];exact h) h1
  | some r =>
   rw[take_snoc hk,AQ]at h;rw[chs_succ hk];rcases h with h | h
   ·have ih:=chs_ids h h1;split
    ·exact ih
    ·rw[AY];exact List.mem_append_left _ ih
   ·rw[B9]at h;subst h;split
    ·rename_i hc;rcases hc with hc | hc
     ·omega
     ·obtain⟨p,hp,e⟩:=met_iff.1 hc;rw[<- e];exact chs_ids hp oQ
    ·rw[AY];exact List.mem_append_right _ oZ
theorem chs_met {l:List Rd}{k:Nat}{r:Rd} (h1:1<=r.id):met l k r=true↔r.id∈(chs l k).map (·.id):=by
 rw[met_iff];constructor
 ·rintro⟨q,hq,e⟩;rw[<- e];exact chs_ids hq oQ
 ·intro h;obtain⟨q,hq,e⟩:=BG.1 h;exact⟨q,(chs_mem hq).2,e⟩
structure BuS (w:Ab) (B:Nat) (v:Ak) (T:List PT):Prop where
 own:OwnP w B v T
 ats:Ats w T
 sep:∀ t∈T,t.1.at_≠[]->∀ g,t.2.1=A3 g->v.ownBlock≠A3 g.block
theorem BuS.below {w w':Ab}{B:Nat}{v:Ak}{T:List PT} (h:BuS w B v T) (hb:Aa w.heap.size w w'):BuS w' B v T:=⟨B4 h.own hb,h.ats.below hb,h.sep⟩
theorem BuS.app {w w1 w':Ab}{B:Nat}{v v':Ak}{T T2:List PT} (h:BuS w B v T) (hb:Aa w.heap.size w w1) (h2:Ats w1 T2) (hf:∀ t∈T2,∀ g,t.2.1=A3 g->w.heap.size<=g.block) (hg:w1.grownBy w' v.ownBlock) (hown:w'.ownsRow B 100 4 v' (T.length+T2.length) (T.flatMap encP++T2.flatMap encP)) (hv:v'.ownBlock=v.ownBlock\/v'.ownBlock=A3 w1.heap.size):BuS w' B v' (T++T2):=by
 have h':=h.below hb
 have hs2:∀ t∈T2,t.1.at_≠[]->∀ g,t.2.1=A3 g->v.ownBlock≠A3 g.block:=fun t ht _ g hg e=>by
  have h3:=(h.own.lt _ e).2;have h4:=hf t ht g hg;omega
 have hsA:∀ t∈T++T2,t.1.at_≠[]->∀ g,t.2.1=A3 g->v.ownBlock≠A3 g.block/\g.block<w1.heap.size:=fun t ht hn g hg=>by
  rcases AQ.1 ht with ht | ht
  ·exact⟨h.sep t ht hn g hg,(h'.ats t ht).lt hn g hg⟩
  ·exact⟨hs2 t ht hn g hg,(h2 t ht).lt hn g hg⟩
 have hat1:Ats w1 (T++T2):=fun t ht=>by
  rcases AQ.1 ht with ht | ht
  ·exact h'.ats t ht
  ·exact h2 t ht
 refine⟨by unfold OwnP;rw[Ag,AR];exact hown,fun t ht=>?_,fun t ht hn g hg2 e=>?_⟩
 ·exact (hat1 t ht).agree hg.size (fun hn g hg2=>hg.block _ (hsA t ht hn g hg2).2 (fun e=>(hsA t ht hn g hg2).1 e.symm))
 ·rcases hv with hv | hv
  ·rw[hv]at e;exact (hsA t ht hn g hg2).1 e
  ·rw[hv]at e;injection e with e;have:=(hsA t ht hn g hg2).2;omega
theorem BuS.sorted {w w':Ab}{B:Nat}{v:Ak}{T S:List PT} (h:BuS w B v T) (hp:S.Perm T) (hg:w.grownBy w' v.ownBlock) (hown:OwnP w' B v S):BuS w' B v S :=
 ⟨hown,fun t ht=>(h.ats t (hp.mem_iff.1 ht)).agree hg.size (fun hn g hg2=>hg.block _ ((h.ats t (hp.mem_iff.1 ht)).lt hn g hg2) (fun e=>h.sep t (hp.mem_iff.1 ht) hn g hg2 e.symm)),fun t ht=>h.sep t (hp.mem_iff.1 ht)⟩
theorem BuS.kept {w w':Ab}{B X:Nat}{v:Ak}{T:List PT} (h:BuS w B v T) (hX:X<B) (hat:∀ t∈T,t.1.at_≠[]->∀ g,t.2.1=A3 g->g.block≠X) (hb:∀ k,k≠X->w'.heap[k]?=w.heap[k]?) (hs:w.heap.size<=w'.heap.size):BuS w' B v T:=by
 refine⟨⟨h.own.1,?_⟩,fun t ht=>(h.ats t ht).agree hs (fun hn g hg=>hb _ (hat t ht hn g hg)),h.sep⟩;rcases h.own.2 with h1 | ⟨g,cap,cur,rfl,h2,h3,h4⟩
 ·exact .inl h1
 ·exact .inr ⟨g,cap,cur,rfl,h2,(hb g oQ).trans h3,h4⟩
open Rc
theorem build_mem {rs:List Rd}{p:Post} (h:p∈build rs):∃ r∈rs,1<=r.id/\p∈posts r:=by
 unfold build at h;rw[bld_eq]at h;have h2:=(fold_perm _ _).mem_iff.1 h;rw[List.nil_append]at h2;obtain⟨r,hr,hp⟩:=List.mem_flatMap.1 h2;exact⟨r,List.mem_of_mem_take (chs_mem hr).2,(chs_mem hr).1,hp⟩
theorem places_lt {t:List By}{x:By}{n:Int} (h:n∈places t x):0<=n/\n<(t.length:Int):=by
 obtain⟨j,hj,hx⟩:=placesF_mem.1 h;have:=(Av.1 hx).1;omega
def Dist (rs:List Rd):Prop:=∀ r∈rs,∀ q∈rs,r.id=q.id->r=q
theorem phr_mem {x:List Post}{f n:Int}{s:By}{l:List By}:n∈phrase x f (s::l)↔∃ p∈x,p.fld=f/\p.word=s/\p.id=n/\∃ m∈p.at_,folF x f p.id m 1 l=true:=by
 unfold phrase phr;rw[Cp.puts_mem];simp only[List.mem_flatMap,BG,Be,Bool.and_eq_true,decide_eq_true_eq,beq_iff_eq];constructor
 ·rintro⟨p,⟨hp,h1,h2⟩,m,⟨hm,hf⟩,e⟩;exact⟨p,hp,h1,h2,e,m,hm,hf⟩
 ·rintro⟨p,hp,h1,h2,e,m,hm,hf⟩;exact⟨p,⟨hp,h1,h2⟩,m,⟨hm,hf⟩,e⟩
end Ix
namespace Vm
open Go.Maps (Keyed)
abbrev rawE:Ak->Option (Eh Ak × List MemPlace):=fun v=>A3 (.held v,[])
open Classical in
noncomputable def upd (f:Lit->Option Ak) (kl:Lit) (u:Ak):Lit->Option Ak:=fun y=>if y=kl then A3 u else f y
theorem upd_same (f:Lit->Option Ak) (kl:Lit) (u:Ak):upd f kl u kl=A3 u:=by unfold upd;rw[if_pos rfl]
theorem upd_other (f:Lit->Option Ak) {kl y:Lit} (u:Ak) (h:y≠kl):upd f kl u y=f y:=by unfold upd;rw[if_neg h]
def Reads (D:Eh Ak) (f:Lit->Option Ak):Prop:=∀ kl,Maps.has D kl=(f kl).isSome/\∀ z,D.atKey kl z=(match f kl with | some v=>.held v | none=>z)
structure Map (k:Bo) (w:Ab) (M n:Nat) (f:Lit->Option Ak):Prop where
 d:∃ D:Eh Ak,w.ownsMap A8 k rawE M n D/\Reads D f
variable {k : Bo} {w w' : Ab} {M n r cnt : Nat} {f : Lit -> Option Ak} {left : Lit -> Bool}
theorem Map.of_block (h:Map k w M n f) (hb:w'.heap[M]?=w.heap[M]?):Map k w' M n f:=by
 obtain⟨D,⟨es,clock,h1,h2⟩,h3⟩:=h.d;exact⟨D,⟨es,clock,hb.trans h1,h2⟩,h3⟩
theorem Map.lt (h:Map k w M n f):M<w.heap.size:=by
 obtain⟨D,h1,_⟩:=h.d;exact h1.lt
theorem Map.obj (h:Map k w M n f):∃ es c,w.heap[M]?=A3 (.map es c):=by
 obtain⟨D,⟨es,clock,h1,_⟩,_⟩:=h.d;exact⟨es,clock,h1⟩
theorem Map.mono (h:Map k w M n f) {m:Nat} (hm:n<=m):Map k w M m f:=by
 obtain⟨D,h1,h2⟩:=h.d;exact⟨D,h1.mono hm,h2⟩
theorem Map.kept (h:Map k w M n f) {row:Option Nat} (hg:w.grownBy w' row) (hne:A3 M≠row):Map k w' M n f:=h.of_block (hg.block M h.lt hne)
theorem Map.below (h:Map k w M n f) (hb:Aa w.heap.size w w'):Map k w' M n f:=h.of_block (hb.block M h.lt)
theorem Map.made (k:Bo) (w:Ab):Map k (w.alloc (.map #[] 0)) w.heap.size 0 (fun _=>A0) :=
 ⟨⟨.map [],World.ownsMap_made _ _ _ _,fun _=>⟨rfl,fun _=>rfl⟩⟩⟩
theorem Map.ne_row {B e size m:Nat}{v:Ak}{xs:List Ak} (hM:Map k w M n f) (h:w.ownsRow B e size v m xs):v.ownBlock≠A3 M:=fun e=>by
 obtain⟨es,cl,hM⟩:=hM.obj;rcases h.2 with⟨rfl,_⟩ | ⟨b,cap,cur,rfl,_,hb,_⟩
 ·cases e
 ·have e':b=M:=by injection e
  subst e';rw[hM]at hb;cases hb
theorem Map.look (h:Map k w M n f) (K:Keyed A8 k) {t e:Bo} (ht:A8.underlying t=A3 (.map k e)) {z:Ak} (hz:(zeroValue e).run A8 w=.ok z w) {key:Ak}{kl:Lit} (hkey:keyOf A8 k key=A3 kl) {v:Ak} (hv:(f kl).getD z=v) :
  (Instr.lookup t (.map (A3 M)) key false).run A8 w=.ok v w:=by
 obtain⟨D,h1,h2⟩:=h.d;obtain⟨u,ps,hrun,hu⟩:=h1.lookup K ht hz (zd:=.held z) (zp:=[]) rfl hkey;rw[(h2 kl).2]at hu
 have e:u=v:=by
  injection hu with hu;injection hu with hu;cases hf:f kl with
  | none=>rw[hf]at hu hv;injection hu with hu;rw[hu];exact hv
  | some x=>rw[hf]at hu hv;injection hu with hu;rw[hu];exact hv
 rw[hrun,e]
section
variable {ops : Array Hz} {rest : List Hz} {o : Hz} {a : Act} {Q : Exit -> Act -> Ab -> Prop}
theorem Reads.put {D:Eh Ak} (h:Reads D f) (ht:Maps.IsMap D) {kl:Lit} (hk:JM kl) (v:Ak):Reads (D.put kl (.held v)) (upd f kl v):=fun y=>by
 by_cases hy:y=kl
 ·subst hy;rw[upd_same,Maps.has_put_same ht hk];exact⟨rfl,fun z=>Maps.atKey_put_same ht hk _ _⟩
 ·rw[upd_other _ _ hy,Maps.has_put_other hy];exact⟨(h y).1,fun z=>by rw[M8 hy];exact (h y).2 z⟩
theorem put_step (hp:Map k w M n f) (hn:n<Ap) (K:Keyed A8 k) {key:Ak}{kl:Lit} (hkey:keyOf A8 k key=A3 kl) (hkl:JM kl) (hg:o.guard=A0) (m x v:Ib) {t e:Bo} (hop:o.op=Op.mapUpdate t m x v)
  (ht:A8.underlying t=A3 (.map k e)) (hm:a.eval m=.map (A3 M)) (hx:a.eval x=key) {u:Ak} (hv:a.eval v=u)
  (hK:∀ w',Map k w' M (n+1) (upd f kl u)->w.grownBy w' (A3 M)->E2 A8 ops Q rest (a.put o.dst undef) w'):E2 A8 ops Q (o::rest) a w:=by
 obtain⟨D,h1,h2⟩:=hp.d;refine M7 w hg m x v _ hop k e K ht rawE M n D hm h1 hn _ _ _ hx hv hkey (.held u) [] rfl fun w' h3 h4=>?_;exact hK w' ⟨⟨_,h3,h2.put (h1.tidy K).isMap hkl u⟩⟩ h4
structure Rng (k:Bo) (w:Ab) (M r n:Nat) (f:Lit->Option Ak) (left:Lit->Bool) (cnt:Nat):Prop where
 d:∃ D:Eh Ak,w.ranges A8 k rawE M r n D left cnt/\Reads D f
theorem Rng.map (h:Rng k w M r n f left cnt):Map k w M n f:=by
 obtain⟨D,h1,h2⟩:=h.d;exact⟨D,h1.owns,h2⟩
theorem Rng.kept (h:Rng k w M r n f left cnt) {row:Option Nat} (hg:w.grownBy w' row) (h1:A3 M≠row) (h2:A3 r≠row):Rng k w' M r n f left cnt:=by
 obtain⟨D,h3,h4⟩:=h.d;exact⟨D,h3.kept hg h1 h2,h4⟩
theorem Rng.below (h:Rng k w M r n f left cnt) (hb:Aa w.heap.size w w'):Rng k w' M r n f left cnt :=
 h.kept (row:=A0) ⟨hb.os,hb.tape,hb.output,hb.size,fun k hk _=>hb.block k hk⟩ oZ oZ
theorem Rng.left_eq (h:Rng k w M r n f left cnt):w.rangeLeft M r=cnt:=by
 obtain⟨D,h3,_⟩:=h.d;exact h3.left_eq
theorem Rng.ne_row {B e size m:Nat}{v:Ak}{xs:List Ak} (hR:Rng k w M r n f left cnt) (h:w.ownsRow B e size v m xs):v.ownBlock≠A3 r:=fun e=>by
 obtain⟨D,⟨es,clock,since,seen,c0,_,_,_,_,hr,_⟩,_⟩:=hR.d;rcases h.2 with⟨rfl,_⟩ | ⟨b,cap,cur,rfl,_,hb,_⟩
 ·cases e
 ·have e':b=r:=by injection e
  subst e';rw[hr]at hb;cases hb
theorem range_step (hp:Map k w M n f) (K:Keyed A8 k) (hg:o.guard=A0) (m:Ib) {t e:Bo} (hop:o.op=Op.range t m) (ht:A8.underlying t=A3 (.map k e)) (hm:a.eval m=.map (A3 M))
  (hK:∀ w' cnt,cnt<=n->Rng k w' M w.heap.size n f (fun kl=>(f kl).isSome) cnt->w.grownBy w' A0->w'.heap.size=w.heap.size+1->E2 A8 ops Q rest (a.put o.dst (.pointer (A3 ⟨w.heap.size,0,A0⟩))) w'):E2 A8 ops Q (o::rest) a w:=by
 obtain⟨D,h1,h2⟩:=hp.d;refine wpList_range_own w hg m t hop k e K ht rawE M n D hm h1 fun w' h3 h4 h5=>?_;have e:Maps.has D=fun kl=>(f kl).isSome:=by funext kl;exact (h2 kl).1
 rw[e]at h3;refine hK w' (Maps.size D) ?_ ⟨D,h3,h2⟩ h4 h5;obtain⟨es,clock,_,_,hs,rfl⟩:=h1;rw[Maps.size_eq,length_sorted];simpa using hs
theorem next_step (h:Rng 3 w M r n f left cnt) (hg:o.guard=A0) (it:Ib) (hop:o.op=Op.next it false) (hit:a.eval it=.pointer (A3 ⟨r,0,A0⟩))
  (hDone:cnt=0->(∀ kl,left kl=false)->E2 A8 ops Q rest (a.put o.dst (.tuple #[.bool false])) w)
  (hMore : ∀ (x : Int) (v : Ak) (w' : Ab) (cnt' : Nat), (Gv .i64 x).wf = true -> left (.int .i64 x) = true -> f (.int .i64 x) = A3 v -> Rng 3 w' M r n f (fun z => left z && !z.sameKey (.int .i64 x)) cnt' -> cnt' < cnt ->
   w.grownBy w' (A3 r)->w'.heap.size=w.heap.size->(Instr.entry (.pointer (A3 ⟨r,0,A0⟩))).run A8 w'=.ok (.tuple #[.int .i64 x,v]) w'->E2 A8 ops Q rest (a.put o.dst (.tuple #[.bool true,.int .i64 x,v])) w') :
  E2 A8 ops Q (o::rest) a w:=by
 obtain⟨D,h1,h2⟩:=h.d;refine wpList_next_ranges (α:=Int) (β:=Ak) w hg it hop 3 Ix.nkey rawE (B3 .i64) (fun v=>v) (fun key kl hkey=>by obtain⟨x,rfl,_⟩:=Maps.keyOf_int_inv B6 hkey;exact⟨x,rfl⟩) (fun v y hv=>⟨v,rfl⟩) M r n D left cnt hit h1 hDone ?_;intro x v kl y w' cnt' hkey hlk hv hat hrg hlt hgr hsz hen;obtain⟨x',ex,rfl,hwx⟩:=Maps.keyOf_int_inv B6 hkey;cases ex;have hv':y=(.held v,[]):=by injection hv with hv;exact hv.symm
 subst hv';refine hMore x v w' cnt' hwx hlk ?_ ⟨D,hrg,h2⟩ hlt hgr hsz hen;have e:=hat .nil;rw[(h2 _).2]at e;cases hf:f (.int .i64 x) with
 | none=>rw[hf]at e;cases e
 | some u=>rw[hf]at e;injection e with e;rw[e]
end
end Vm
theorem r02_articles_c (lang:ByteArray) (w:Ab) :
  Af A8 244 #[.string lang] w fun e w'=>∃ a c,e=.returned (.slice a (EK lang.data.toList).length c)/\SLA w' a c ((EK lang.data.toList).map fun x=>(⟨x.toArray⟩:ByteArray))/\Aa w.heap.size w w':=by
 obtain⟨L,hL⟩:=zpw;have ee:=Sr.str_eq lang [101,110,103];have eg:=zqf;have es:=zqg;have ep:=zqt;rw[hL]at ee eg es ep ⊢;clear hL;by_cases k0:L=[101,110,103]
 ·rw[decide_eq_true k0]at ee;have hA:EK L=[[116,104,101],[97],[97,110]]:=by unfold EK;rw[if_pos k0]
  rw[hA];clear hA k0 eg es ep;go_enter Mb,Ln;go_wp2;go_ret;exact⟨_,_,rfl,SLA.new (xs:=[(⟨([116,104,101]:List UInt8).toArray⟩:ByteArray),(⟨([97]:List UInt8).toArray⟩:ByteArray),(⟨([97,110]:List UInt8).toArray⟩:ByteArray)]) (cs:=#[AZ ⟨([116,104,101]:List UInt8).toArray⟩,AZ ⟨([97]:List UInt8).toArray⟩,AZ ⟨([97,110]:List UInt8).toArray⟩]) (t:=9) rfl rfl oX,A9 _ _⟩
 ·rw[decide_eq_false k0]at ee;by_cases k1:L=[103,101,114]
  ·rw[decide_eq_true k1]at eg;have hA:EK L=[[100,101,114],[100,105,101],[100,97,115],[101,105,110],[101,105,110,101]]:=by unfold EK;rw[if_neg k0,if_pos k1]
   rw[hA];clear hA k0 k1 es ep;go_enter Mb,Ln;go_wp2;go_ret;exact⟨_,_,rfl,SLA.new (xs:=[(⟨([100,101,114]:List UInt8).toArray⟩:ByteArray),(⟨([100,105,101]:List UInt8).toArray⟩:ByteArray),(⟨([100,97,115]:List UInt8).toArray⟩:ByteArray),(⟨([101,105,110]:List UInt8).toArray⟩:ByteArray),(⟨([101,105,110,101]:List UInt8).toArray⟩:ByteArray)]) (cs:=#[AZ ⟨([100,101,114]:List UInt8).toArray⟩,AZ ⟨([100,105,101]:List UInt8).toArray⟩,AZ ⟨([100,97,115]:List UInt8).toArray⟩,AZ ⟨([101,105,110]:List UInt8).toArray⟩,AZ ⟨([101,105,110,101]:List UInt8).toArray⟩]) (t:=9) rfl rfl oX,A9 _ _⟩
  ·rw[decide_eq_false k1]at eg;by_cases k2:L=[115,119,101]
   ·rw[decide_eq_true k2]at es;have hA:EK L=[[101,110],[101,116,116],[100,101,110],[100,101,116],[100,101]]:=by unfold EK;rw[if_neg k0,if_neg k1,if_pos k2]
    rw[hA];clear hA k0 k1 k2 ep;go_enter Mb,Ln;go_wp2;go_ret;exact⟨_,_,rfl,SLA.new (xs:=[(⟨([101,110]:List UInt8).toArray⟩:ByteArray),(⟨([101,116,116]:List UInt8).toArray⟩:ByteArray),(⟨([100,101,110]:List UInt8).toArray⟩:ByteArray),(⟨([100,101,116]:List UInt8).toArray⟩:ByteArray),(⟨([100,101]:List UInt8).toArray⟩:ByteArray)]) (cs:=#[AZ ⟨([101,110]:List UInt8).toArray⟩,AZ ⟨([101,116,116]:List UInt8).toArray⟩,AZ ⟨([100,101,110]:List UInt8).toArray⟩,AZ ⟨([100,101,116]:List UInt8).toArray⟩,AZ ⟨([100,101]:List UInt8).toArray⟩]) (t:=9) rfl rfl oX,A9 _ _⟩
   ·rw[decide_eq_false k2]at es;by_cases k3:L=[115,112,97]
    ·rw[decide_eq_true k3]at ep;have hA:EK L=[[101,108],[108,97],[108,111,115],[108,97,115],[117,110],[117,110,97]]:=by unfold EK;rw[if_neg k0,if_neg k1,if_neg k2,if_pos k3]
     rw[hA];clear hA k0 k1 k2 k3;go_enter Mb,Ln;go_wp2;go_ret;exact⟨_,_,rfl,SLA.new (xs:=[(⟨([101,108]:List UInt8).toArray⟩:ByteArray),(⟨([108,97]:List UInt8).toArray⟩:ByteArray),(⟨([108,111,115]:List UInt8).toArray⟩:ByteArray),(⟨([108,97,115]:List UInt8).toArray⟩:ByteArray),(⟨([117,110]:List UInt8).toArray⟩:ByteArray),(⟨([117,110,97]:List UInt8).toArray⟩:ByteArray)]) (cs:=#[AZ ⟨([101,108]:List UInt8).toArray⟩,AZ ⟨([108,97]:List UInt8).toArray⟩,AZ ⟨([108,111,115]:List UInt8).toArray⟩,AZ ⟨([108,97,115]:List UInt8).toArray⟩,AZ ⟨([117,110]:List UInt8).toArray⟩,AZ ⟨([117,110,97]:List UInt8).toArray⟩]) (t:=9) rfl rfl oX,A9 _ _⟩
    ·rw[decide_eq_false k3]at ep;have hA:EK L=[]:=by unfold EK;rw[if_neg k0,if_neg k1,if_neg k2,if_neg k3]
     rw[hA];clear hA k0 k1 k2 k3;go_enter Mb,Ln;go_wp2;go_ret;exact⟨_,_,rfl,⟨Ad _,Am _,0,0,fun h=>absurd rfl h,fun j x hx=>by simp at hx⟩,Ah _ _⟩
namespace Sr
theorem arts_few (lang:By):(arts lang).length<=6:=by
 unfold arts
 repeat' split
 all_goals decide
theorem in_map (word:ByteArray) (l:List By):decide (word.data.toList∈l)=(l.map fun x=>(⟨x.toArray⟩:ByteArray)).any fun x=>x.toList == word.toList:=by
 rw[Bx,decide_eq_true_eq,List.any_map,FN];constructor
 ·intro h;exact⟨_,h,by show ((⟨_⟩:ByteArray).toList == _)=true;simp only[AG];simp⟩
 ·rintro⟨x,hx,h⟩;have h2:((⟨x.toArray⟩:ByteArray).toList == word.toList)=true:=h;simp only[AG,beq_iff_eq]at h2;rw[<- h2];exact hx
end Sr
theorem r02_Article_c (lang word:ByteArray) (w:Ab) :
  Af A8 187 #[.string lang,.string word] w fun e w'=>e=.returned (.bool (decide (word.data.toList∈EK lang.data.toList)))/\Aa w.heap.size w w':=by
 have AC:=r02_articles_c lang w;have hlen:=Sr.arts_few lang.data.toList;have hany:=Sr.in_map word (EK lang.data.toList);obtain⟨xs,hxs⟩:∃ xs,(EK lang.data.toList).map (fun x=>(⟨x.toArray⟩:ByteArray))=xs:=⟨_,rfl⟩;have hxl:(EK lang.data.toList).length=xs.length:=by rw[<- hxs,Ax]
 rw[hxs,hxl]at AC;rw[hxs]at hany;rw[hxl]at hlen;obtain⟨b,hb⟩:∃ b,decide (word.data.toList∈EK lang.data.toList)=b:=⟨_,rfl⟩;rw[hb]at hany ⊢;have HA:=J AC;have HB:=J hany;clear AC hany hxs hxl hb;go_enter Tryz.func187,Tryz.ntmps187;go_wp2_with (go_at_call 244;(with_reducible refine HA.out.mono ?_);rintro e w1 ⟨a,c,rfl,hs1,hb1⟩;have HS:=J hs1);go_loop [6] (fun i=>∃ k:Nat,k<=xs.length/\i=.int .i64 k/\Hid ((xs.take k).any (fun x=>x.toList == word.toList)=false)) (fun i=>xs.length - (Aj i).toNat)
 case atStart=>exact⟨0,Am _,by go_num,J eY⟩
 case round =>
  obtain⟨k,hk,rfl,hN⟩:=hrel;by_cases hlt:k<xs.length
  ·obtain⟨x,hx⟩:=zfz;obtain⟨bb,oo,rfl,hbl,hc⟩:=HS.out.get hx
   have htk:(xs.take (k+1)).any (fun x=>x.toList == word.toList)=(x.toList == word.toList):=by
    rw[Cz,hx,List.any_append,hN.out];simp
   have hmem:x∈xs:=AJ hx;cases ht:(x.toList == word.toList) with
   | true =>
    have hbt:b=true:=by rw[HB.out,FN];exact⟨x,hmem,ht⟩
    subst hbt;clear htk hmem hx hs1;go_wp2;go_ret;exact⟨rfl,hb1⟩
   | false =>
    rw[ht]at htk;have HT:=J htk;clear htk hmem hx hs1;go_wp2;go_round
    case rel=>exact⟨k+1,hlt,by go_num,HT⟩
    case measure=>simp[Aj];omega
  ·obtain rfl:k=xs.length:=oQ;have hbf:b=false:=by rw[HB.out,<- hN.out,At]
   subst hbf;clear hs1;go_wp2;go_ret;exact⟨rfl,hb1⟩
namespace Sr
def T1 (s:By) (n:Nat):Prop:=s.takeWhile (· != 32)=s.take n++(s.drop n).takeWhile (· != 32)/\s.dropWhile (· != 32)=(s.drop n).dropWhile (· != 32)
theorem T1.zero (s:By):T1 s 0:=⟨rfl,rfl⟩
theorem drop_at {s:By}{n:Nat}{c:UInt8} (h:s[n]?=A3 c):s.drop n=c::s.drop (n+1):=by
 obtain⟨hlt,e⟩:=Av.1 h;rw[List.drop_eq_getElem_cons hlt,e]
theorem T1.step {s:By}{n:Nat}{c:UInt8} (h:T1 s n) (hc:s[n]?=A3 c) (hn:c≠32):T1 s (n+1):=by
 obtain⟨h1,h2⟩:=h;have hb:(c != 32)=true:=bne_iff_ne.2 hn;rw[drop_at hc,List.takeWhile_cons,if_pos hb]at h1;rw[drop_at hc,Fx,if_pos hb]at h2;refine⟨?_,h2⟩;rw[h1,Cz,hc,AW];rfl
theorem T1.stop {s:By}{n:Nat} (h:T1 s n) (hc:s.length<=n\/s[n]?=A3 32):s.takeWhile (· != 32)=s.take n/\s.dropWhile (· != 32)=s.drop n:=by
 obtain⟨h1,h2⟩:=h;rcases hc with hc | hc
 ·rw[AS hc]at h1 h2;rw[h1,h2,AS hc];exact⟨oZ,rfl⟩
 ·rw[h1,h2,drop_at hc];exact⟨oZ,oZ⟩
def T2 (s:By) (n:Nat):Prop:=(s.dropWhile (· != 32)).dropWhile (· == 32)=(s.drop n).dropWhile (· == 32)
theorem T2.step {s:By}{n:Nat} (h:T2 s n) (hc:s[n]?=A3 32):T2 s (n+1):=by
 unfold T2 at *;rw[drop_at hc,Fx,if_pos (show ((32:UInt8) == 32)=true from rfl)]at h;exact h
theorem T2.stop {s:By}{n:Nat} (h:T2 s n) (hc:s.length<=n\/∃ c,s[n]?=A3 c/\c≠32):(s.dropWhile (· != 32)).dropWhile (· == 32)=s.drop n:=by
 unfold T2 at h;rw[h];rcases hc with hc | ⟨c,hc,hn⟩
 ·rw[AS hc];rfl
 ·rw[drop_at hc,Fx,if_neg (by simpa using hn)]
theorem byte_get {s:ByteArray}{k:Nat} (h:k<s.size):s.data.toList[k]?=A3 (s[k]'h):=by
 have h':k<s.data.toList.length:=by rw[<- Ao];exact h
 exact Ai h'
end Sr
theorem yk9 (h:P:=by
 have hF:s.extract 0 k=⟨(s.data.toList.takeWhile (· != 32)).toArray⟩:=by
  apply ByteArray.ext;apply Ed.1;rw[DV,HW.out.1,Nat.sub_zero,AU]
 have hFs:(s.extract 0 k).size<=1000000:=by rw[Ao,DV,Nat.sub_zero,AU,Az,<- Ao];omega
 have hFC:∀ w',Af A8 188 #[.string (s.extract 0 k)] w' fun e w''=>e=.returned (.string ⟨(EO (s.data.toList.takeWhile (· != 32))).toArray⟩)/\Aa w'.heap.size w' w'':=fun w'=>by
  have:=r01_Fold_c (s.extract 0 k) w' oQ;rw[hF]at this;rw[hF];exact this
 obtain⟨X,hX⟩:∃ X:ByteArray,(⟨(EO (s.data.toList.takeWhile (· != 32))).toArray⟩:ByteArray)=X:=⟨_,rfl⟩;have hXd:EO (s.data.toList.takeWhile (· != 32))=X.data.toList:=by rw[<- hX]
 rw[hX]at hFC;have HFC:=J hFC;have HKE:Hid (K=⟨(if X.data.toList∈EK lang.data.toList/\(s.data.toList.dropWhile (· != 32)).dropWhile (· == 32)≠[] then (s.data.toList.dropWhile (· != 32)).dropWhile (· == 32) else s.data.toList).toArray⟩):=J (by rw[<- HK.out,<- hXd];rfl);by_cases hin:X.data.toList∈EK lang.data.toList
 ·have AC:∀ w',Af A8 187 #[.string lang,.string X] w' fun e w''=>e=.returned (.bool true)/\Aa w'.heap.size w' w'':=fun w'=>by
   have:=r02_Article_c lang X w';rw[decide_eq_true hin]at this;exact this
  have HAC:=J AC;have HIN:=J hin;clear hF hFs hFC hX hXd AC hin
  go_wp2_with (first
   |(go_at_call 188;(with_reducible refine (HFC.out _).mono ?_);rintro e w1 ⟨rfl,hb1⟩)
   |(go_at_call 187;(with_reducible refine (HAC.out _).mono ?_);rintro e w2 ⟨rfl,hb2⟩))
  have hb12:=zro;go_loop [5] (fun n=>∃ j:Nat,j<=s.size/\n=.int .i64 j/\Hid (Sr.T2 s.data.toList j)) (fun n=>s.size - (Aj n).toNat)
  case atStart=>exact⟨k,hk,by go_num,J (by unfold Sr.T2;rw[HW.out.2])⟩
  case round =>
   obtain⟨j,hj,rfl,hT2⟩:=hrel;by_cases hlt2:j<s.size
   ·obtain⟨d,hd⟩:∃ d,s[j]'hlt2=d:=⟨_,rfl⟩;have hat2:=Sr.byte_get hlt2;rw[hd]at hat2;have hdd:∀ h,s[j]'h=d:=fun _=>hd;clear hd;by_cases g32:d=32
    ·subst g32;have HN2:=J (hT2.out.step hat2);clear hat2 hT2;go_wp2;go_round
     case rel=>exact⟨j+1,hlt2,by go_num,HN2⟩
     case measure=>simp[Aj];omega
    ·have gne:((d.toNat:Int) == 32)=false:=beq_eq_false_iff_ne.2 (fun h9=>g32 (UInt8.toNat.inj (by show d.toNat=32;omega)));have HST:=J (hT2.out.stop (.inr ⟨d,hat2,g32⟩));have jne:((j:Int) == (s.size:Int))=false:=beq_eq_false_iff_ne.2 oQ;have hdn:s.data.toList.drop j≠[]:=fun h9=>by have:=List.drop_eq_nil_iff.1 h9;rw[<- Ao]at this;omega
     have HKX:Hid (s.extract j s.size=K):=J (by rw[HKE.out,HST.out,if_pos ⟨HIN.out,hdn⟩];exact (HCUT.out j rfl).symm);clear hat2 hT2 g32 hdn;go_wp2;go_ret;exact⟨by rw[<- HKX.out];rfl,hb12⟩
   ·obtain rfl:j=s.size:=oQ;have HST:=J (hT2.out.stop (.inl zsh));have hdn:=zgh;have HKX:Hid (s=K):=J (by rw[HKE.out,HST.out,hdn,if_neg (fun h=>h.2 rfl)]);clear hT2 hdn;go_wp2;go_ret;exact⟨by rw[<- HKX.out];rfl,hb12⟩
 ·have AC:∀ w',Af A8 187 #[.string lang,.string X] w' fun e w''=>e=.returned (.bool false)/\Aa w'.heap.size w' w'':=fun w'=>by
   have:=r02_Article_c lang X w';rw[decide_eq_false hin]at this;exact this
  have HAC:=J AC;have HKX:Hid (s=K):=J (by rw[HKE.out,if_neg (fun h=>hin h.1)]);clear hF hFs hFC hX hXd AC hin
  go_wp2_with (first
   |(go_at_call 188;(with_reducible refine (HFC.out _).mono ?_);rintro e w1 ⟨rfl,hb1⟩)
   |(go_at_call 187;(with_reducible refine (HAC.out _).mono ?_);rintro e w2 ⟨rfl,hb2⟩))
  go_ret;exact⟨by rw[<- HKX.out];rfl,Ac hb1 hb2⟩):P:=h
theorem r02_Skip_c (lang s:ByteArray) (w:Ab) (hs:s.size<=1000000) :
  Af A8 110 #[.string lang,.string s] w fun e w'=>e=.returned (.string ⟨(Sr.skip lang.data.toList s.data.toList).toArray⟩)/\Aa w.heap.size w w':=by
 have HE:=zpk;obtain⟨K,hK⟩:∃ K:ByteArray,(⟨(Sr.skip lang.data.toList s.data.toList).toArray⟩:ByteArray)=K:=⟨_,rfl⟩;have HK:=J hK;rw[hK];clear hK;have hself:=zip;have HSF:=J (hself rfl)
 have hcut:∀ (n:Nat) {x:Sr.By},s.data.toList.drop n=x->(⟨x.toArray⟩:ByteArray)=s.extract n s.size:=fun n x h=>by
  apply ByteArray.ext;apply Ed.1;rw[DV,<- h,Ao];show s.data.toList.drop n=_;rw[Dq aX]
 have HCUT:=J hcut;clear hself hcut;go_enter Tryz.func110,Tryz.ntmps110;go_wp2;go_loop [5] (fun n=>∃ k:Nat,k<=s.size/\n=.int .i64 k/\Hid (Sr.T1 s.data.toList k)) (fun n=>s.size - (Aj n).toNat)
 case atStart=>exact⟨0,Am _,by go_num,J (Sr.T1.zero _)⟩
 case round =>
  obtain⟨k,hk,rfl,hT⟩:=hrel;have behind:(s.size<=k\/s.data.toList[k]?=A3 32)->Hid (s.data.toList.takeWhile (· != 32)=s.data.toList.take k/\s.data.toList.dropWhile (· != 32)=s.data.toList.drop k):=fun h=>J (hT.out.stop iW);have HBH:=J behind;clear behind;by_cases hlt:k<s.size
  ·obtain⟨c,hc⟩:=zqc;have hat:=Sr.byte_get hlt;rw[hc]at hat;have hcc:=zqd;clear hc;by_cases h32:c=32
   ·subst h32;have HW:=HBH.out (.inr hat);clear hat hT;exact yk9
   ·have hne:((c.toNat:Int) != 32)=true:=bne_iff_ne.2 (fun h9=>h32 (UInt8.toNat.inj (by show c.toNat=32;omega)));have HN:=J (hT.out.step hat h32);clear hat h32 hT;go_wp2;go_round
    case rel=>exact⟨k+1,hlt,by go_num,HN⟩
    case measure=>simp[Aj];omega
  ·have HW:=HBH.out (.inl oQ);clear hT;exact yk9
end Go.Proofs.YtlakomilichhnaaGreatDoor
