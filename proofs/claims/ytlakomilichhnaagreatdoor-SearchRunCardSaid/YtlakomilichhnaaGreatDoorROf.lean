/- Parts. -/
import Derived.Test.YtlakomilichhnaaGreatDoorROh
import Derived.StillTailTactics
namespace Go.Proofs.YtlakomilichhnaaGreatDoor
set_option maxHeartbeats 3200000
set_option maxRecDepth 100000
open Go.RowKit
open Go renaming Addr->Aq,Calls->Af,Value->Ak,World->Ab,cell_later->A4
open Ix renaming ltK->KY
open Lib renaming encodeRune->FV,hid->J,size_eq->Ao,toList_data->AG
open List renaming append_assoc->AW,append_nil->AB,cons_append->BU,drop_eq_getElem_cons->BT,drop_length->Dd,drop_succ_cons->I9,drop_zero->AU,eq_nil_of_length_eq_zero->Ar,filter_cons_of_neg->Fp,filter_cons_of_pos->Fm,flatMap_append->AR,foldl_append->Ha,foldl_cons->Ge,getElem?_eq_getElem->Ai,getElem?_eq_some_iff->Av,getElem?_map->AP,length_append->Ag,length_cons->AH,length_map->Ax,length_take->Az,map_append->AY,map_cons->BX,mem_append->AQ,mem_cons->AL,mem_cons_of_mem->BH,mem_cons_self->B8,mem_of_getElem?->AJ,mem_of_mem_take->Dc,mem_singleton->B9,nil_append->C8,take_append_drop->BY,take_length->At,take_succ_cons->El,take_succ_eq_append_getElem->C6,take_zero->BJ
open List.Pairwise renaming nil->Gj
open Nat renaming add_zero->BN,min_eq_left->H4,zero_add->Ct,zero_le->Am
open Option renaming none->A0,some->A3
open Proofs renaming intOf->Aj,own_below->B4
open Proofs.Tryz renaming func70->L8,ntmps70->K0,prog->A8,underlying22->Fs,underlying26->BF
open Rc renaming Fl->CH,FldA->Bz,tagIs->Bg
open RowKit renaming Below->Aa
open RowKit.Below renaming refl->Ah
open Tx renaming rdec->Cv,step->Ac,words->Bl
open UInt8 renaming ofNat->Dm,ofNat_toNat->KE,toNat_inj->EF
open Value renaming int->B3,string->AZ
open World renaming ownsRow_nil->AI
variable {P:Prop}
namespace Rc
end Rc
namespace Ix
open Rc
abbrev OwnT (w':Ab) (B:Nat) (v:Ak) (l:List By):Prop:=w'.ownsRow B 9 1 v l.length (l.map Tx.sv)
theorem own_sla {w:Ab}{B:Nat}{v:Ak}{l:List By} (h:OwnT w B v l):∃ a c,v=.slice a l.length c/\SLA w a c (l.map fun x=>(⟨x.toArray⟩:ByteArray)):=by
 obtain⟨a,c,e,hs⟩:=SLA.of_own (xs:=l.map fun x=>(⟨x.toArray⟩:ByteArray)) h (by rw[List.map_map];rfl);rw[Ax]at e;exact⟨a,c,e,hs⟩
end Ix
theorem y1e (h:P:=by
 go_roundw
 case rel=>exact⟨k+1,hlt,by go_num,by unfold Ix.OwnT;rw[HT.out,Ag,AY];exact hown7,(hb.alloc hbs _).grown hg7 oW (fun j hj=>(hown.lt j hj).1)⟩
 case measure=>simp[Aj];omega):P:=h
theorem r20_joined_c (x y:List Ix.By) (a b:Option Aq) (c d:Nat) (w:Ab) (hx:SLA w a c (x.map fun x=>(⟨x.toArray⟩:ByteArray))) (hy:SLA w b d (y.map fun x=>(⟨x.toArray⟩:ByteArray))) (hl:x.length+y.length<=50000000) :
  Af A8 138 #[.slice a x.length c,.slice b y.length d] w fun e w'=>∃ v,e=.returned v/\Ix.OwnT w' w.heap.size v (x++y)/\Aa w.heap.size w w':=by
 obtain⟨i0,hi0,hz0,hz1,hz2⟩:=zih;have HI:=J hi0;clear hi0;have hcx:=hx.cap;have hcy:=hy.cap;rw[Ax]at hcx hcy;have HX:=J hx;have HY:=J hy;clear hx hy;go_enter Tryz.func138,Tryz.ntmps138;go_wp2;go_loopw [5,6] (fun v i wr=>∃ (k:Nat),k<=x.length/\i=.int .i64 k/\Ix.OwnT wr w.heap.size v (x.take k)/\Aa w.heap.size w wr) (fun _ i _=>x.length - (Aj i).toNat)
 case atStart=>exact⟨0,Am _,rfl,AI _ _ _ _,Ah _ _⟩
 case round =>
  obtain⟨k,hk,rfl,hown,hb⟩:=hrel;have hbs:=hb.size;by_cases hlt:k<x.length
  ·obtain⟨z,hz⟩:∃ z,x[k]?=A3 z:=⟨_,Ai hlt⟩;obtain⟨B,o,rfl,hbl,c0⟩:=HX.out.get (k:=k) (x:=⟨z.toArray⟩) (by rw[AP,hz];rfl);replace c0:=A4 hb c0;have htk:x.take (k+1)=x.take k++[z]:=by rw[C6 hlt,Ai hlt]at *;injection hz with hz;rw[hz]
   have hkl:(x.take k).length=k:=by rw[Az];omega
   have HT:=J htk;clear htk;have HK:=J hkl;clear hkl;go_wp2_with (at_builtin;go_must (refine wpList_append_sl rfl _ _ 26 rfl w.heap.size 9 i0 _ 1 16 BF HI.out hz0 hz1 hz2 rfl oX _ (x.take k).length _ rfl (hown.alloc _) (A3 ⟨_,0,A0⟩) 1 1 [AZ ⟨z.toArray⟩] rfl rfl oF oD oG aJ aW oW ?_);intro v' w7 hown7 hg7 hnil7);exact y1e
  ·obtain rfl:k=x.length:=oQ;rw[At]at hown;clear hlt;go_wp2;go_loopw [5,7] (fun v i wr=>∃ (k:Nat),k<=y.length/\i=.int .i64 k/\Ix.OwnT wr w.heap.size v (x++y.take k)/\Aa w.heap.size w wr) (fun _ i _=>y.length - (Aj i).toNat)
   case atStart=>exact⟨0,Am _,rfl,by rw[BJ,AB];exact hown,hb⟩
   case round =>
    obtain⟨k,hk,rfl,hown,hb⟩:=hrel;have hbs:=hb.size;by_cases hlt:k<y.length
    ·obtain⟨z,hz⟩:∃ z,y[k]?=A3 z:=⟨_,Ai hlt⟩;obtain⟨B,o,rfl,hbl,c0⟩:=HY.out.get (k:=k) (x:=⟨z.toArray⟩) (by rw[AP,hz];rfl);replace c0:=A4 hb c0;have htk:x++y.take (k+1)=(x++y.take k)++[z]:=by rw[C6 hlt,AW];rw[Ai hlt]at hz;injection hz with hz;rw[hz]
     have hkl:(x++y.take k).length=x.length+k:=by rw[Ag,Az];omega
     have HT:=J htk;clear htk;have HK:=J hkl;clear hkl;go_wp2_with (at_builtin;go_must (refine wpList_append_sl rfl _ _ 26 rfl w.heap.size 9 i0 _ 1 16 BF HI.out hz0 hz1 hz2 rfl oX _ (x++y.take k).length _ rfl (hown.alloc _) (A3 ⟨_,0,A0⟩) 1 1 [AZ ⟨z.toArray⟩] rfl rfl oF oD oG aJ aW oW ?_);intro v' w7 hown7 hg7 hnil7);exact y1e
    ·obtain rfl:k=y.length:=oQ;rw[At]at hown;go_wp2;go_ret;exact⟨_,rfl,hown,hb⟩
namespace Ix
open Rc
def wordsF (f:Fl) (codes:By):List By:=(allV f.subs codes).flatMap fun s=>Bl s.data.toList
theorem flat_take {α β:Type} (g:α->List β) {l:List α}{k:Nat}{x:α} (h:l[k]?=A3 x):(l.take (k+1)).flatMap g=(l.take k).flatMap g++g x:=by
 have hlt:=zdc;rw[C6 hlt,AR];rw[Ai hlt]at h;injection h with h;rw[h];simp
theorem flat_le {α β:Type} (g:α->List β) (l:List α) (k:Nat):((l.take k).flatMap g).length<=(l.flatMap g).length:=by
 conv=>rhs;rw[<- BY k l]
 rw[AR,Ag];omega
end Ix
theorem SLA.grown {w w':Ab}{row:Option Nat}{a:Option Aq}{c:Nat}{xs:List ByteArray} (h:SLA w a c xs) (hg:w.grownBy w' row) (hne:∀ g,a=A3 g->A3 g.block≠row):SLA w' a c xs:=by
 by_cases h0:xs=[]
 ·subst h0;exact⟨h.cap,h.max,0,0,fun h9=>absurd rfl h9,fun j x hx=>by simp at hx⟩
 ·obtain⟨b,o,h1,h2⟩:=h.at_;obtain⟨ha,hb⟩:=h1 h0;exact⟨h.cap,h.max,b,o,fun _=>⟨ha,Nat.lt_of_lt_of_le hb hg.size⟩,fun j x hx=>(hg.cell_far ⟨b,o+j,A0⟩ hb (show A3 b≠row from hne _ ha)).trans (h2 j x hx)⟩
theorem r20_words_c (f:CH) (a:Option Aq) (c:Nat) (codes:ByteArray) (w:Ab) (h:Rc.SubA w a c f.subs) (hl:f.subs.length<=1000) (hs:codes.size<=1000) (hz:∀ x∈f.subs,x.2.size<=100000) (hn:(Ix.wordsF f codes.data.toList).length<=100000) :
  Af A8 140 #[.agg #[.string f.tag,.string f.ind,.slice a f.subs.length c,.int .i64 f.auth],.string codes] w fun e w'=>∃ v,e=.returned v/\Ix.OwnT w' w.heap.size v (Ix.wordsF f codes.data.toList)/\Aa w.heap.size w w':=by
 obtain⟨i0,hi0,hz0,hz1,hz2⟩:=zih;have HI:=J hi0;clear hi0;obtain⟨W,hW⟩:∃ W,w.alloc (.cells #[.string f.tag,.string f.ind,.slice a f.subs.length c,.int .i64 f.auth] 84)=W:=⟨_,rfl⟩;have hB:=zi;have KF:Hid (W.heap[w.heap.size]?=A3 (.cells #[.string f.tag,.string f.ind,.slice a f.subs.length c,.int .i64 f.auth] 84 (0,0))):=J iZ;obtain⟨c0,c1,c2,c3,-⟩:=Tx.c4 KF.out;have HS:=J (h.below hB);clear h;obtain⟨L,hL⟩:∃ L,Rc.allV f.subs codes.data.toList=L:=⟨_,rfl⟩
 have hLz:∀ x∈L,x.size<=100000:=fun x hx=>by
  rw[<- hL]at hx;unfold Rc.allV at hx;obtain⟨y,hy,rfl⟩:=zqb;exact hz y (List.mem_filter.1 hy).1
 have hLl:L.length<=1000:=by rw[<- hL];unfold Rc.allV;rw[Ax];exact Nat.le_trans (List.length_filter_le _ _) hl
 have hWF:Ix.wordsF f codes.data.toList=L.flatMap fun s=>Bl s.data.toList:=by unfold Ix.wordsF;rw[hL]
 rw[hWF]at hn ⊢;have hle:=fun k=>Ix.flat_le (fun s:ByteArray=>Bl s.data.toList) L k;have HLE:=J hle;have HLZ:=J hLz;have HL:=J hL;clear hle hLz hL hWF hz;have hn':=hn;go_enter Tryz.func140,Tryz.ntmps140;go_wp2_with (go_at_call 142;(with_reducible refine (r07_All_c f a c codes _ HS.out hl hs).mono ?_);rintro e w1 ⟨va,vc,rfl,hsl,hb1⟩;rw[HL.out]at hsl ⊢;have HSL:=J hsl;clear hsl;have k1:=Ac hB hb1;have s1:=hb1.size);clear hW;have hcap:=HSL.out.cap;go_loopw [5,7] (fun v i wr=>∃ (k:Nat),k<=L.length/\i=.int .i64 k/\Ix.OwnT wr w1.heap.size v ((L.take k).flatMap fun s=>Bl s.data.toList)/\Aa w1.heap.size w1 wr) (fun _ i _=>L.length - (Aj i).toNat)
 case atStart=>exact⟨0,Am _,rfl,AI _ _ _ _,Ah _ _⟩
 case round =>
  obtain⟨k,hk,rfl,hown,hb⟩:=hrel;have hbs:=hb.size;by_cases hlt:k<L.length
  ·have hw9:=zcw;obtain⟨z,hz⟩:∃ z,L[k]?=A3 z:=⟨_,Ai hlt⟩;obtain⟨B,o,rfl,hbl,e0⟩:=HSL.out.get hz;replace e0:=A4 hb e0;have hft:=Ix.flat_take (fun s:ByteArray=>Bl s.data.toList) hz;have hzs:=HLZ.out z (AJ hz);have hk1:=HLE.out (k+1);rw[hft]at hk1;obtain⟨acc,hacc⟩:∃ acc,(L.take k).flatMap (fun s:ByteArray=>Bl s.data.toList)=acc:=⟨_,rfl⟩;obtain⟨ws,hws⟩:∃ ws,Bl z.data.toList=ws:=⟨_,rfl⟩;simp only[hacc,hws,Ag]at hk1 hft;rw[hacc]at hown;have HFT:=J hft;have HWS:=J hws;clear hft hacc hws hz;go_wp2_with (go_at_call 212;(with_reducible refine (r01_Words_c z _ oQ).mono ?_);rintro e w2 ⟨v2,rfl,hown2,hb2⟩;rw[HWS.out]at hown2;obtain⟨a2,c2',rfl,hs2⟩:=zix;have HS2:=J hs2;have hlo2:∀ ad,a2=A3 ad->wr.heap.size<=ad.block/\ad.block<w2.heap.size:=(fun ad h=>by subst h;exact hown2.lt _ rfl);clear hs2 hown2;have own3:=zrs;have k2:=hb.trans (hb2.mono hbs);have s2:=hb2.size);have hcap2:=HS2.out.cap;rw[Ax]at hcap2;go_loopw [5,9] (fun v i wr=>∃ (j:Nat),j<=ws.length/\i=.int .i64 j/\Ix.OwnT wr w1.heap.size v (acc++ws.take j)/\Aa w1.heap.size w1 wr/\Hid (SLA wr a2 c2' (ws.map fun x=>(⟨x.toArray⟩:ByteArray)))/\(∀ ad,a2=A3 ad->v.ownBlock≠A3 ad.block/\ad.block<wr.heap.size)) (fun _ i _=>ws.length - (Aj i).toNat)
   case atStart=>exact⟨0,Am _,rfl,by rw[BJ,AB];exact own3,k2,HS2,fun ad h=>⟨fun e=>by have:=(hown.lt _ e).2;have:=(hlo2 ad h).1;omega,(hlo2 ad h).2⟩⟩
   case round =>
    obtain⟨j,hj,rfl,hown4,hb4,hs4,hne4⟩:=hrel;have hbs4:=hb4.size;by_cases hlt2:j<ws.length
    ·obtain⟨y,hy⟩:∃ y,ws[j]?=A3 y:=⟨_,Ai hlt2⟩;obtain⟨B2,o2,rfl,hbl2,e2⟩:=hs4.out.get (k:=j) (x:=⟨y.toArray⟩) OG;have htk:acc++ws.take (j+1)=(acc++ws.take j)++[y]:=by rw[C6 hlt2,AW];rw[Ai hlt2]at hy;injection hy with hy;rw[hy]
     have hkl:(acc++ws.take j).length=acc.length+j:=by rw[Ag,Az];omega
     have HT:=J htk;clear htk;have HK:=J hkl;clear hkl;go_wp2_with (at_builtin;go_must (refine wpList_append_sl rfl _ _ 26 rfl w1.heap.size 9 i0 _ 1 16 BF HI.out hz0 hz1 hz2 rfl oX _ (acc++ws.take j).length _ rfl (hown4.alloc _) (A3 ⟨_,0,A0⟩) 1 1 [AZ ⟨y.toArray⟩] rfl rfl oF oD oG aJ aW oW ?_);intro v' w7 hown7 hg7 hnil7);go_roundw
     case rel=>exact⟨j+1,hlt2,by go_num,by unfold Ix.OwnT;rw[HT.out,Ag,AY];exact hown7,(hb4.alloc hbs4 _).grown hg7 oW (fun i hi=>(hown4.lt i hi).1),J ((hs4.out.below (Tx.newb _ _)).grown hg7 (fun g hg e=>(hne4 g hg).1 e.symm)),fun ad h=>⟨fun e=>by
      rcases hnil7 with h9 | h9
      ·rw[h9]at e;exact (hne4 ad h).1 e
      ·rw[h9]at e;injection e with e;have:=(hne4 ad h).2;simp at e;omega,by have:=(hne4 ad h).2;have:=hg7.size;simp at this;omega⟩⟩
     case measure=>simp[Aj];omega
    ·obtain rfl:j=ws.length:=oQ;rw[At]at hown4;go_wp2;go_roundw
     case rel=>exact⟨k+1,hlt,by go_num,by rw[HFT.out];exact hown4,hb4⟩
     case measure=>simp[Aj];omega
  ·obtain rfl:k=L.length:=oQ;rw[At]at hown;go_wp2;go_ret
   exact⟨_,rfl,⟨hown.1,by
    rcases hown.2 with h1 | ⟨g,cap,cur,h1,h2,h3,h4⟩
    ·exact .inl h1
    ·exact .inr ⟨g,cap,cur,h1,by have:=hB.size;omega,h3,h4⟩⟩,Ac k1 hb⟩
namespace Ix
open Rc
structure Mod (fs:List Fl):Prop where
 len:fs.length<=70
 subs:∀ f∈fs,f.subs.length<=1000
 size:∀ f∈fs,∀ x∈f.subs,x.2.size<=100000
 words:∀ f∈fs,∀ codes,(wordsF f codes).length<=12500
def pick (p:Fl->Bool) (codes:By) (fs:List Fl):List By:=(fs.filter p).flatMap fun f=>wordsF f codes
theorem pick_take {p:Fl->Bool}{codes:By}{fs:List Fl}{k:Nat}{f:Fl} (h:fs[k]?=A3 f):pick p codes (fs.take (k+1))=pick p codes (fs.take k)++(if p f=true then wordsF f codes else []):=by
 have hlt:=zdc;unfold pick;rw[C6 hlt,List.filter_append,AR];rw[Ai hlt]at h;injection h with h;rw[h];congr 1;by_cases hp:p f=true
 ·rw[if_pos hp,Fm hp];simp
 ·rw[if_neg hp,Fp hp];rfl
theorem pick_le {p:Fl->Bool}{codes:By}:∀ {fs:List Fl},(∀ f∈fs,(wordsF f codes).length<=12500)->(pick p codes fs).length<=12500*fs.length
 | [],_=>Am _
 | f::fs,h=>by
  have ih:=pick_le (p:=p) (codes:=codes) (fs:=fs) (fun g hg=>h g (BH _ hg));have h1:=h f (B8 ..);unfold pick at ih ⊢;by_cases hp:p f=true
  ·rw[Fm hp,List.flatMap_cons,Ag,AH];omega
  ·rw[Fp hp,AH];omega
theorem own_lower {w:Ab}{B B2:Nat}{v:Ak}{l:List By} (h:OwnT w B2 v l) (hB:B<=B2):OwnT w B v l:=⟨h.1,by
 rcases h.2 with h1 | ⟨g,cap,cur,h1,h2,h3,h4⟩
 ·exact .inl h1
 ·exact .inr ⟨g,cap,cur,h1,oQ,h3,h4⟩⟩
end Ix
theorem yaa (h:P:=by
 obtain⟨oa,oc,rfl,hso⟩:=Ix.own_sla hown;have HSO:=J hso;clear hso
 go_wp2_with (first
  |(go_at_call 138;(with_reducible refine (r20_joined_c acc WF oa va oc vc _ (HSO.out.below hb2) HSV.out oQ).mono ?_);rintro e w3 ⟨v3,rfl,hown3,hb3⟩;have s3:=hb3.size)
  |(go_at_call 140;(with_reducible refine (CW.out _ (Ah _ _)).mono ?_);rintro e w2 ⟨v2,rfl,hown2,hb2⟩;obtain⟨va,vc,rfl,hsv⟩:=zix;have HSV:=zrk;clear hsv hown2;have s2:=hb2.size))
 go_roundw
 case rel=>exact⟨k+1,hlt,by go_num,by rw[HPT.out];exact Ix.own_lower hown3 oQ,Ac (Ac hb hb2) hb3,Ac (Ac hbW hb2) hb3⟩
 case measure=>simp[Aj];omega):P:=h
theorem y6c (h:P:=by
 clear hpt hti hf;go_wp2;go_roundw
 case rel=>exact⟨k+1,hlt,by go_num,by rw[HPT.out];exact hown,hb,hbW⟩
 case measure=>simp[Aj];omega):P:=h
theorem yn2 (h:P:=by
 obtain rfl:k=fs.length:=oQ;rw[At]at hown;go_wp2;go_ret;exact⟨_,rfl,hown,hb⟩):P:=h
theorem vxc (h:P:=by
 obtain⟨f,hf⟩:=zah;have hfm:=zhr;obtain⟨B,o,sa,sc,rfl,hbl,d0,d1,d2,d3,hsub⟩:=zpn;replace d0:=A4 hbW d0;replace d1:=A4 hbW d1;replace d2:=A4 hbW d2;replace d3:=A4 hbW d3;have HSUB:=J (hsub.below hbW);clear hsub
 first
  |have hpt:=Ix.pick_take (p:=(Ix.begB d)) (codes:=codes.data.toList) hf
   have hpl:=Ix.pick_le (p:=(Ix.begB d)) (codes:=codes.data.toList) (fs:=fs.take k) (fun g hg=>hM.words g (Dc hg) _);rw[Az]at hpl;have hwf:=zhs;have hsl:=zne;have HSZ:=zpl;obtain⟨acc,hacc⟩:∃ acc,Ix.pick (Ix.begB d) codes.data.toList (fs.take k)=acc:=⟨_,rfl⟩;rw[hacc]at hown hpt hpl;have hpl2:=zfi;clear hpl hacc;by_cases hz:f.tag.size=0
   ·have hti:=Ix.begB_nil (d:=d) hz
    have hte:(f.tag.toList == [])=true:=by
     rw[AG,Ar (by rw[<- Ao];exact hz:f.tag.data.toList.length=0)];rfl
    exact yll
   ·have h0:0<f.tag.size:=oQ
    have hte:(f.tag.toList == [])=false:=by
     rw[AG,beq_eq_false_iff_ne];intro h9;have:=congrArg List.length h9;rw[<- Ao]at this;exact hz this
    obtain⟨x,hx⟩:∃ x,f.tag[0]'h0=x:=⟨_,rfl⟩;have hxx:∀ h,f.tag[0]'h=x:=fun _=>hx;have hbp:=Ix.begB_pos (d:=d) (f:=f) h0;rw[hx]at hbp;have hgu:=Rc.u8_eq (a:=x) (b:=d);clear hx;by_cases hxd:x=d
    ·have hti:Ix.begB d f=true:=by rw[hbp,hxd];simp
     have hq2:(x == d)=true:=by simpa using hxd
     rw[hq2]at hgu;rw[if_pos hti]at hpt;clear hbp hq2 hxd;obtain⟨WF,hWF⟩:∃ ws,Ix.wordsF f codes.data.toList=ws:=⟨_,rfl⟩;rw[hWF]at hpt hwf;have HPT:=J hpt;have HWF:=J hWF;clear hpt hWF hti hf
     have CW:Hid (∀ w',Aa wr.heap.size wr w'->Af A8 140 #[.agg #[.string f.tag,.string f.ind,.slice sa f.subs.length sc,.int .i64 f.auth],.string codes] w' fun e w''=>∃ v,e=.returned v/\Ix.OwnT w'' w'.heap.size v WF/\Aa w'.heap.size w' w''):=J (fun w' hb'=>by
      have h9:=zgw;rw[HWF.out]at h9;exact h9)
     exact yaa
    ·have hti:¬ Ix.begB d f=true:=by rw[hbp];simpa using hxd
     have hq2:(x == d)=false:=by simpa using hxd
     rw[hq2]at hgu;clear hbp hq2 hxd;exact yll
  |have hpt:=Ix.pick_take (p:=Bg tag.data.toList) (codes:=codes.data.toList) hf
   have hpl:=Ix.pick_le (p:=Bg tag.data.toList) (codes:=codes.data.toList) (fs:=fs.take k) (fun g hg=>hM.words g (Dc hg) _);rw[Az]at hpl;have hwf:=zhs;have hsl:=zne;have HSZ:=zpl;obtain⟨acc,hacc⟩:∃ acc,Ix.pick (Bg tag.data.toList) codes.data.toList (fs.take k)=acc:=⟨_,rfl⟩;rw[hacc]at hown hpt hpl;have hpl2:=zfi;clear hpl hacc;by_cases ht:f.tag=tag
   ·have hti:Bg tag.data.toList f=true:=by unfold Bg;rw[ht];simp
    rw[if_pos hti]at hpt;obtain⟨WF,hWF⟩:∃ ws,Ix.wordsF f codes.data.toList=ws:=⟨_,rfl⟩;rw[hWF]at hpt hwf;have HPT:=J hpt;have HWF:=J hWF;rw[ht]at d0;have HT:=J ht;clear hpt hWF hti hf ht
    have CW:Hid (∀ w',Aa wr.heap.size wr w'->Af A8 140 #[.agg #[.string tag,.string f.ind,.slice sa f.subs.length sc,.int .i64 f.auth],.string codes] w' fun e w''=>∃ v,e=.returned v/\Ix.OwnT w'' w'.heap.size v WF/\Aa w'.heap.size w' w''):=J (fun w' hb'=>by
     have h9:=zgw;rw[HT.out,HWF.out]at h9;exact h9)
    exact yaa
   ·have hti:¬ Bg tag.data.toList f=true:=by
     unfold Bg;intro h9;rw[beq_iff_eq]at h9;exact ht (ByteArray.ext (Array.toList_inj.1 h9))
    rw[if_neg hti,AB]at hpt;have HPT:=zju;have ht2:(f.tag.data.toList == tag.data.toList)=false:=by simpa [Bg] using hti
    have ht3:(f.tag.toList == tag.toList)=false:=by rw[AG,AG];exact ht2
    exact y6c):P:=h
theorem vml (h:P:=by
 obtain⟨W,hW,hB,-,-,-,-,c4⟩:=zb;have HS:=J (h.below hB);clear h;have hlen:=hM.len;have hcap:=HS.out.cap;have hbB:=hB.size
 first
  |go_enter Tryz.func139,Tryz.ntmps139
   go_wp2;clear hW;go_loopw [7,8] (fun v i wr=>∃ (k:Nat),k<=fs.length/\i=.int .i64 k/\Ix.OwnT wr w.heap.size v (Ix.pick (Bg tag.data.toList) codes.data.toList (fs.take k))/\Aa w.heap.size w wr/\Aa W.heap.size W wr) (fun _ i _=>fs.length - (Aj i).toNat)
   case atStart=>exact⟨0,Am _,rfl,AI _ _ _ _,hB,Ah _ _⟩
   case round =>
    obtain⟨k,hk,rfl,hown,hb,hbW⟩:=hrel;have hbs:=hb.size;have hbWs:=hbW.size;replace c4:=A4 hbW c4;by_cases hlt:k<fs.length
    ·exact vxc
    ·exact yn2
  |go_enter Tryz.func141,Tryz.ntmps141
   go_wp2;clear hW;go_loopw [7,8] (fun v i wr=>∃ (k:Nat),k<=fs.length/\i=.int .i64 k/\Ix.OwnT wr w.heap.size v (Ix.pick (Ix.begB d) codes.data.toList (fs.take k))/\Aa w.heap.size w wr/\Aa W.heap.size W wr) (fun _ i _=>fs.length - (Aj i).toNat)
   case atStart=>exact⟨0,Am _,rfl,AI _ _ _ _,hB,Ah _ _⟩
   case round =>
    obtain⟨k,hk,rfl,hown,hb,hbW⟩:=hrel;have hbs:=hb.size;have hbWs:=hbW.size;replace c4:=A4 hbW c4;by_cases hlt:k<fs.length
    ·exact vxc
    ·exact yn2):P:=h
theorem r20_tagged_c (fs:List CH) (a:Option Aq) (c:Nat) (id ver kind:Int) (lang:ByteArray) (tag codes:ByteArray) (w:Ab) (h:Bz w a c fs) (hM:Ix.Mod fs) (hs:codes.size<=1000) :
  Af A8 139 #[.agg #[.int .i64 id,.int .i64 ver,.int .i64 kind,.string lang,.slice a fs.length c],.string tag,.string codes] w fun e w'=>∃ v,e=.returned v/\Ix.OwnT w' w.heap.size v (Ix.pick (Bg tag.data.toList) codes.data.toList fs)/\Aa w.heap.size w w':=by
 exact vml
namespace Ix
open Rc
def begB (d:UInt8) (f:Fl):Bool:=f.tag.data.toList.head? == A3 d
theorem begB_pos {d:UInt8}{f:Fl} (h:0<f.tag.size):begB d f=(f.tag[0]'h == d):=by
 unfold begB
 have h2:f.tag.data.toList.head?=A3 (f.tag[0]'h):=by
  rw[List.head?_eq_getElem?,Array.getElem?_toList,Array.getElem?_eq_getElem h];rfl
 rw[h2];rfl
theorem begB_nil {d:UInt8}{f:Fl} (h:f.tag.size=0):¬ begB d f=true:=by
 unfold begB;have:f.tag.data.toList=[]:=Ar iW;rw[this];simp
end Ix
theorem yll (h:P:=by
 rw[if_neg hti,AB]at hpt;have HPT:=zju;exact y6c):P:=h
theorem r20_begun_c (fs:List CH) (a:Option Aq) (c:Nat) (id ver kind:Int) (lang:ByteArray) (d:UInt8) (codes:ByteArray) (w:Ab) (h:Bz w a c fs) (hM:Ix.Mod fs) (hs:codes.size<=1000) :
  Af A8 141 #[.agg #[.int .i64 id,.int .i64 ver,.int .i64 kind,.string lang,.slice a fs.length c],.int .u8 d.toNat,.string codes] w fun e w'=>∃ v,e=.returned v/\Ix.OwnT w' w.heap.size v (Ix.pick (Ix.begB d) codes.data.toList fs)/\Aa w.heap.size w w':=by
 exact vml
namespace Ix
def plainB:By->By
 | []=>[]
 | c::r=>if c=45\/c=32 then plainB r
  else if c=194/\r.head?=A3 160 then plainB r.tail
  else if 65<=c.toNat/\c.toNat<=90 then (c+32)::plainB r
  else c::plainB r
termination_by l => l.length
decreasing_by all_goals simp <;> omega
theorem plainB_nil:plainB []=[]:=by rw[plainB]
theorem plainB_cons (c:UInt8) (r:By):plainB (c::r)=if c=45\/c=32 then plainB r
  else if c=194/\r.head?=A3 160 then plainB r.tail
  else if 65<=c.toNat/\c.toNat<=90 then (c+32)::plainB r
  else c::plainB r:=by rw[plainB]
theorem drop_at {s:ByteArray}{k:Nat} (h:k<s.size):s.data.toList.drop k=s[k]'h::s.data.toList.drop (k+1):=by
 have h':k<s.data.toList.length:=by rw[<- Ao];exact h
 rw[BT h'];rfl
theorem kn {c:UInt8}{n:Nat} (_hn:n<256) (h:c≠Dm n):(c.toNat:Int)≠(n:Int):=fun e=>h (by
 have e2:c.toNat=n:=oQ;rw[<- e2,KE])
theorem ext_eq (s:ByteArray) (a b:Nat):(⟨((s.data.toList.drop a).take (b - a)).toArray⟩:ByteArray)=s.extract a b:=by
 apply ByteArray.ext;apply Array.toList_inj.1;rw[Lib.extract_data]
theorem app_one {s:ByteArray}{k:Nat}{c:UInt8}{out:By} (h:(⟨[c].toArray⟩:ByteArray)=s.extract k (k+1)):AZ (⟨out.toArray⟩++s.extract k (k+1))=AZ ⟨(out++[c]).toArray⟩:=by
 rw[<- h];congr 1
theorem app_byte {c:UInt8}{out:By}:AZ ((⟨out.toArray⟩:ByteArray)++⟨[c].toArray⟩)=AZ ⟨(out++[c]).toArray⟩:=by
 congr 1
end Ix
theorem byte_string (w:Ab) (c:UInt8) (v:Int) (hv:v=(c.toNat:Int)):(convert 174 9 (.slice (A3 ⟨w.heap.size,0,A0⟩) 1 1)).run A8 (w.alloc (.cells #[.int .u8 v] 5))=.ok (.string ⟨[c].toArray⟩) (w.alloc (.cells #[.int .u8 v] 5)) :=
 run_convert_bytes_back (P:=A8) (w.alloc (.cells #[.int .u8 v] 5)) 174 9 5 ⟨w.heap.size,0,A0⟩ 1 [c] Tryz.underlying174 Tryz.underlying5 Tryz.underlying9 (fun j hj=>by
  have:j=0:=by simp at hj;omega
  subst this;exact Tx.cell_one_at _ _ rfl _ _ 0 _ (by rw[hv];rfl))
theorem y4e (h:P:=by
 have HN:Hid (out++Ix.plainB (s.data.toList.drop (k+1))=Ix.plainB s.data.toList):=J (by rw[<- HT2.out,hP]);clear hP;go_wp2;go_roundw
 case rel=>exact⟨k+1,out,hlt,rfl,by go_num,HN,oQ,hb⟩
 case measure=>simp[Aj];omega):P:=h
theorem yte (h:P:=by
 go_wp2;go_roundw
 case rel=>exact⟨k+1,out++[194],hlt,Ix.app_one HX1.out,by go_num,HN,by rw[Ag];simp;omega,hb⟩
 case measure=>simp[Aj];omega):P:=h
theorem yvv (h:P:=by
 go_wp2;go_roundw
 case rel=>exact⟨k+1,out++[c],hlt,Ix.app_one HX1.out,by go_num,HN,by rw[Ag];simp;omega,hb⟩
 case measure=>simp[Aj];omega):P:=h
theorem r20_plain_c (s:ByteArray) (w:Ab) (hs:s.size<=50000000) :
  Af A8 143 #[.string s] w fun e w'=>e=.returned (.string ⟨(Ix.plainB s.data.toList).toArray⟩)/\Aa w.heap.size w w':=by
 go_enter Tryz.func143,Tryz.ntmps143;go_wp2;go_loopw [3,4] (fun v i wr=>∃ (k:Nat) (out:List UInt8),k<=s.size/\v=.string ⟨out.toArray⟩/\i=.int .i64 k/\Hid (out++Ix.plainB (s.data.toList.drop k)=Ix.plainB s.data.toList)/\out.length<=k/\Aa w.heap.size w wr) (fun _ i _=>s.size - (Aj i).toNat)
 case atStart=>exact⟨0,[],Am _,rfl,rfl,J aD,Am _,Ah _ _⟩
 case round =>
  obtain⟨k,out,hk,rfl,rfl,hT,hol,hb⟩:=hrel;have hbs:=hb.size;by_cases hlt:k<s.size
  ·have hdr:=Ix.drop_at hlt;obtain⟨c,hc⟩:=zqc;rw[hc]at hdr;have hcc:=zqd;clear hc;have hP:=Ix.plainB_cons c (s.data.toList.drop (k+1));have HT:=J hT.out;rw[hdr]at HT;have HT2:=J HT.out;clear HT hT;have hx1:=Ix.ext_eq s k (k+1);rw[hdr,Nat.add_sub_cancel_left,El,BJ]at hx1;have HX1:=J hx1;clear hx1 hdr;by_cases c45:c=45
   ·subst c45;rw[if_pos (.inl rfl)]at hP;exact y4e
   by_cases c32:c=32
   ·subst c32;rw[if_pos (.inr rfl)]at hP;exact y4e
   have n45:((c.toNat:Int) == 45)=false:=beq_eq_false_iff_ne.2 (Ix.kn (n:=45) oX c45);have n32:((c.toNat:Int) == 32)=false:=beq_eq_false_iff_ne.2 (Ix.kn (n:=32) oX c32);rw[if_neg (by rintro (h | h);exact c45 h;exact c32 h)]at hP;by_cases c194:c=194
   ·subst c194;by_cases hlt2:k+1<s.size
    ·have hdr2:=Ix.drop_at hlt2;obtain⟨d,hd⟩:∃ d,s[k+1]'hlt2=d:=⟨_,rfl⟩;rw[hd]at hdr2;have hdd:∀ h,s[k+1]'h=d:=fun _=>hd;clear hd;have hw:=zcw;have hlt3:(k:Int)+1<(s.size:Int):=oQ;by_cases d160:d=160
     ·subst d160;rw[hdr2,if_pos ⟨rfl,rfl⟩]at hP;have HN:Hid (out++Ix.plainB (s.data.toList.drop (k+2))=Ix.plainB s.data.toList):=J (by rw[<- HT2.out,hdr2,hP];rfl);clear hP hdr2;go_wp2;go_roundw
      case rel=>exact⟨k+2,out,hlt2,rfl,by go_num,HN,oQ,hb⟩
      case measure=>simp[Aj];omega
     ·have n160:((d.toNat:Int) == 160)=false:=beq_eq_false_iff_ne.2 (Ix.kn (n:=160) oX d160);rw[if_neg (by rintro⟨_,h⟩;rw[hdr2]at h;exact d160 eJ),if_neg oX]at hP;have HN:=zde;clear hP hdr2;exact yte
    ·rw[if_neg (by rintro⟨_,h⟩;rw[List.drop_eq_nil_of_le aK]at h;cases h),if_neg oX]at hP;have HN:=zde;have hw:=zcw;have hlt3:¬ (k:Int)+1<(s.size:Int):=oQ;clear hP;exact yte
   ·have n194:((c.toNat:Int) == 194)=false:=beq_eq_false_iff_ne.2 (Ix.kn (n:=194) oX c194);rw[if_neg (by rintro⟨h,_⟩;exact c194 h)]at hP;by_cases hup:65<=c.toNat/\c.toNat<=90
    ·rw[if_pos hup]at hP;have HN:Hid ((out++[c+32])++Ix.plainB (s.data.toList.drop (k+1))=Ix.plainB s.data.toList):=J OQ;have hcv:=byte_string wr (c+32) ((c.toNat:Int)+32) (by rw[UInt8.toNat_add];simp;omega);have hu1:(65:Int)<=(c.toNat:Int):=oQ;have hu2:(c.toNat:Int)<=90:=oQ;clear hP;go_wp2;go_roundw
     case rel=>exact⟨k+1,out++[c+32],hlt,Ix.app_byte,by go_num,HN,by rw[Ag];simp;omega,hb.alloc hbs _⟩
     case measure=>simp[Aj];omega
    ·rw[if_neg hup]at hP;have HN:Hid ((out++[c])++Ix.plainB (s.data.toList.drop (k+1))=Ix.plainB s.data.toList):=J OQ;clear hP;by_cases h65:65<=c.toNat
     ·have hu1:(65:Int)<=(c.toNat:Int):=oQ;have hu2:¬ (c.toNat:Int)<=90:=oQ;exact yvv
     ·have hu1:¬ (65:Int)<=(c.toNat:Int):=oQ;exact yvv
  ·obtain rfl:k=s.size:=oQ;have hd:=zgh;have h8:=hT.out;rw[hd,Ix.plainB_nil,AB]at h8;go_wp2;go_ret;exact⟨Tx.rets (by rw[h8]),hb⟩
namespace Ix
open Rc
def authB (f:Fl):Bool:=tagIs [49,48,48] f||tagIs [49,49,48] f||tagIs [55,48,48] f||tagIs [55,49,48] f
def numB (f:Fl):Bool:=tagIs [48,50,48] f||tagIs [48,50,50] f
def numF (f:Fl):List By:=((allV f.subs [97]).map fun s=>plainB s.data.toList).filter fun x=>!(x == [])
def term (fs:List Fl):Nat->List By
 | 1=>pick (tagIs [50,52,53]) [97,98,110,112] fs++pick (tagIs [50,52,54]) [97,98] fs
 | 2=>pick authB [97] fs
 | 3=>pick (begB 54) [97,120,121,122] fs
 | 4=>(fs.filter numB).flatMap numF
 | _=>[]
def terms (fs:List Fl) (fld:Int):List By :=
 if fld=0 then (((term fs 1++term fs 2)++term fs 3)++term fs 4)++pick (begB 53) [97] fs
 else if 1<=fld/\fld<=4 then term fs fld.toNat else []
theorem pick_len {p:Fl->Bool}{codes:By}{fs:List Fl} (h:Mod fs):(pick p codes fs).length<=1000000:=by
 have h1:=pick_le (p:=p) (codes:=codes) (fs:=fs) (fun g hg=>h.words g hg _);have:=h.len;omega
end Ix
theorem v8k (h:P:=by
 obtain⟨W,hW,hB,c0,c1,c2,c3,c4⟩:=zb;have KR:Hid (W.heap[w.heap.size]?=A3 (.cells #[.int .i64 id,.int .i64 ver,.int .i64 kind,.string lang,.slice a fs.length c] 51)):=J iZ;have HS:=J (h.below hB);clear h;have hbB:=hB.size
 first
  |have CT:Hid (∀ w',Aa W.heap.size W w'->∀ (tag codes:ByteArray),codes.size<=1000->Af A8 139 #[.agg #[.int .i64 id,.int .i64 ver,.int .i64 kind,.string lang,.slice a fs.length c],.string tag,.string codes] w' fun e w''=>∃ v,e=.returned v/\Ix.OwnT w'' w'.heap.size v (Ix.pick (Bg tag.data.toList) codes.data.toList fs)/\Aa w'.heap.size w' w''):=J (fun w' hb tag codes hc=>r20_tagged_c fs a c id ver kind lang tag codes w' (HS.out.below hb) hM hc)
   have L1:=zkl;have L2:=zmd;go_enter L8,K0;go_wp2
   go_region_with (first
    |(go_at_call 138;(with_reducible refine (r20_joined_c (Ix.pick (Bg [50,52,53]) [97,98,110,112] fs) (Ix.pick (Bg [50,52,54]) [97,98] fs) a1 a2 d1 d2 _ (HX.out.below hb2) HY.out oQ).mono ?_);rintro e w3 ⟨v3,rfl,hown3,hb3⟩)
    |(go_at_call 139;(with_reducible refine (CT.out _ hb1 ⟨#[50,52,54]⟩ ⟨#[97,98]⟩ oX).mono ?_);rintro e w2 ⟨v2,rfl,hown2,hb2⟩;obtain⟨a2,d2,rfl,hs2⟩:=zix;have HY:=J hs2;clear hs2 hown2;have e0:=A4 hb2 e0;have k2:=zro)
    |(go_at_call 139;(with_reducible refine (CT.out _ (Ah _ _).drew ⟨#[50,52,53]⟩ ⟨#[97,98,110,112]⟩ oX).mono ?_);rintro e w1 ⟨v1,rfl,hown1,hb1'⟩;have hb1:Aa W.heap.size W w1:=((Ah _ _).drew).trans hb1';obtain⟨a1,d1,rfl,hs1⟩:=Ix.own_sla hown1;have HX:=J hs1;clear hs1 hown1;have e0:=zig;have e1:=zif;have e2:=znl;have e3:=A4 hb1 c3;have e4:=znm))
   all_goals
    go_wp2;go_ret;exact⟨_,rfl,Ix.own_lower hown3 (by have:=(Ac (Ac hB hb1) hb2).size;omega),Ac (Ac (Ac hB hb1) hb2) hb3⟩
  |have CB:Hid (Af A8 141 #[.agg #[.int .i64 id,.int .i64 ver,.int .i64 kind,.string lang,.slice a fs.length c],.int .u8 54,.string ⟨#[97,120,121,122]⟩] W fun e w'=>∃ v,e=.returned v/\Ix.OwnT w' W.heap.size v (Ix.pick (Ix.begB 54) [97,120,121,122] fs)/\Aa W.heap.size W w'):=J (r20_begun_c fs a c id ver kind lang 54 ⟨#[97,120,121,122]⟩ W HS.out hM oX)
   go_enter L8,K0;go_wp2_with (go_at_call 141;(with_reducible refine CB.out.mono ?_);rintro e w1 ⟨v,rfl,hown,hb1⟩);go_ret;exact⟨_,rfl,Ix.own_lower hown hbB,Ac hB hb1⟩):P:=h
theorem r20_Terms_3 (fs:List CH) (a:Option Aq) (c:Nat) (id ver kind:Int) (lang:ByteArray) (w:Ab) (h:Bz w a c fs) (hM:Ix.Mod fs) :
  Af A8 70 #[.agg #[.int .i64 id,.int .i64 ver,.int .i64 kind,.string lang,.slice a fs.length c],.int .i64 3] w fun e w'=>∃ v,e=.returned v/\Ix.OwnT w' w.heap.size v (Ix.term fs 3)/\Aa w.heap.size w w':=by
 exact v8k
theorem r20_Terms_1 (fs:List CH) (a:Option Aq) (c:Nat) (id ver kind:Int) (lang:ByteArray) (w:Ab) (h:Bz w a c fs) (hM:Ix.Mod fs) :
  Af A8 70 #[.agg #[.int .i64 id,.int .i64 ver,.int .i64 kind,.string lang,.slice a fs.length c],.int .i64 1] w fun e w'=>∃ v,e=.returned v/\Ix.OwnT w' w.heap.size v (Ix.term fs 1)/\Aa w.heap.size w w':=by
 exact v8k
namespace Ix
open Rc
def placesF:Nat->List By->By->List Int
 | _,[],_=>[]
 | k,y::t,x=>if y=x then (k:Int)::placesF (k+1) t x else placesF (k+1) t x
def places (t:List By) (x:By):List Int:=placesF 0 t x
theorem placesF_snoc (x y:By):∀ (t:List By) (k:Nat),placesF k (t++[y]) x=placesF k t x++(if y=x then [((k+t.length:Nat):Int)] else [])
 | [],k=>by by_cases h:y=x <;> simp[placesF,h]
 | z::t,k=>by
  have ih:=placesF_snoc x y t (k+1);rw[BU,placesF,placesF,ih,AH,show k+1+t.length=k+(t.length+1) by omega];by_cases h:z=x
  ·rw[if_pos h,if_pos h];rfl
  ·rw[if_neg h,if_neg h]
theorem take_snoc {α:Type}{t:List α}{k:Nat}{y:α} (h:t[k]?=A3 y):t.take (k+1)=t.take k++[y]:=by
 have hlt:=zdc;rw[C6 hlt];rw[Ai hlt]at h;injection h with h;rw[h]
theorem places_take {t:List By}{k:Nat}{y:By} (x:By) (h:t[k]?=A3 y):places (t.take (k+1)) x=places (t.take k) x++(if y=x then [(k:Int)] else []):=by
 have hlt:=zdc;unfold places;rw[take_snoc h,placesF_snoc,Az,H4 oQ,Ct]
theorem placesF_len (x:By):∀ (t:List By) (k:Nat),(placesF k t x).length<=t.length
 | [],_=>Nat.le_refl _
 | y::t,k=>by
  have:=placesF_len x t (k+1);unfold placesF;split <;> simp <;> omega
theorem places_len (t:List By) (x:By):(places t x).length<=t.length:=placesF_len x t 0
theorem placesF_nil {x:By}:∀ {t:List By}{k:Nat},x ∉ t->placesF k t x=[]
 | [],_,_=>rfl
 | y::t,k,h=>by
  rw[AL,not_or]at h;unfold placesF;rw[if_neg (fun e=>h.1 e.symm)];exact placesF_nil h.2
theorem placesF_mem {x:By}:∀ {t:List By}{k:Nat}{n:Int},n∈placesF k t x↔∃ j:Nat,n=((k+j:Nat):Int)/\t[j]?=A3 x
 | [],k,n=>by simp[placesF]
 | y::t,k,n=>by
  have ih:=@placesF_mem x t (k+1) n;unfold placesF;constructor
  ·intro h;by_cases hy:y=x
   ·rw[if_pos hy,AL]at h;rcases h with h | h
    ·exact⟨0,h,by simp[hy]⟩
    ·obtain⟨j,h1,h2⟩:=ih.1 h;exact⟨j+1,by rw[h1];congr 1;omega,by simpa using h2⟩
   ·rw[if_neg hy]at h;obtain⟨j,h1,h2⟩:=ih.1 h;exact⟨j+1,by rw[h1];congr 1;omega,by simpa using h2⟩
  ·rintro⟨j,h1,h2⟩;cases j with
   | zero =>
    have hy:y=x:=by simpa using h2
    rw[if_pos hy];exact List.mem_cons.2 (.inl h1)
   | succ j =>
    have h3:=ih.2 ⟨j,by rw[h1];congr 1;omega,by simpa using h2⟩;split
    ·exact BH _ h3
    ·exact h3
theorem places_head {t:List By}{i:Nat}{x:By} (h:t[i]?=A3 x):∃ n r,places t x=n::r/\((n=(i:Int))↔x ∉ t.take i):=by
 have hlt:=zdc
 have hs:places t x=placesF 0 (t.take i) x++placesF i (t.drop i) x:=by
  have gen:∀ (a b:List By) (k:Nat),placesF k (a++b) x=placesF k a x++placesF (k+a.length) b x:=by
   intro a
   induction a with
   | nil=>intro b k;simp[placesF]
   | cons y a ih =>
    intro b k;rw[BU,placesF,placesF,ih,AH,show k+1+a.length=k+(a.length+1) by omega];split <;> simp
  unfold places
  conv=>lhs;rw[<- BY i t]
  rw[gen,Az,H4 oQ,Ct]
 have hd:placesF i (t.drop i) x=(i:Int)::placesF (i+1) (t.drop (i+1)) x:=by
  rw[BT hlt,placesF];rw[Ai hlt]at h;injection h with h;rw[if_pos h]
 by_cases hm:x∈t.take i
 ·obtain⟨j,hj⟩:=List.getElem?_of_mem hm;have hjl:=(Av.1 hj).1;rw[Az]at hjl;have hp:((0+j:Nat):Int)∈placesF 0 (t.take i) x:=placesF_mem.2 ⟨j,rfl,hj⟩;cases hc:placesF 0 (t.take i) x with
  | nil=>rw[hc]at hp;cases hp
  | cons n r =>
   refine⟨n,r++placesF i (t.drop i) x,by rw[hs,hc];rfl,fun e=>?_,fun h9=>absurd hm h9⟩;have hn:n∈placesF 0 (t.take i) x:=by rw[hc];exact B8 ..
   obtain⟨q,e1,e2⟩:=placesF_mem.1 hn;have hql:=(Av.1 e2).1;rw[Az]at hql;omega
 ·refine⟨(i:Int),placesF (i+1) (t.drop (i+1)) x,?_,fun _=>hm,fun _=>rfl⟩;rw[hs,placesF_nil hm,hd,C8]
def firsts (t:List By):List By:=t.foldl (fun acc x=>if x∈acc then acc else acc++[x]) []
theorem firsts_snoc (t:List By) (x:By):firsts (t++[x])=if x∈firsts t then firsts t else firsts t++[x]:=by
 unfold firsts;rw[Ha];rfl
theorem firsts_fold_mem (x:By):∀ (t acc:List By),x∈t.foldl (fun acc x=>if x∈acc then acc else acc++[x]) acc↔x∈acc\/x∈t
 | [],acc=>oZ
 | y::t,acc=>by
  rw[Ge,firsts_fold_mem x t];split
  ·rename_i hy;constructor
   ·rintro (h | h)
    ·exact .inl h
    ·exact .inr (BH _ h)
   ·rintro (h | h)
    ·exact .inl h
    ·rcases AL.1 h with h | h
     ·rw[h];exact .inl hy
     ·exact .inr h
  ·simp only[AQ,AL,List.not_mem_nil,or_false];constructor
   ·rintro ((h | h) | h)
    ·exact .inl h
    ·exact .inr (.inl h)
    ·exact .inr (.inr h)
   ·rintro (h | h | h)
    ·exact .inl (.inl h)
    ·exact .inl (.inr h)
    ·exact .inr h
theorem firsts_mem {t:List By}{x:By}:x∈firsts t↔x∈t:=by
 unfold firsts;rw[firsts_fold_mem];simp
theorem firsts_take {t:List By}{k:Nat}{y:By} (h:t[k]?=A3 y):firsts (t.take (k+1))=firsts (t.take k)++(if y∈t.take k then [] else [y]):=by
 rw[take_snoc h,firsts_snoc];by_cases hm:y∈t.take k
 ·rw[if_pos (firsts_mem.2 hm),if_pos hm,AB]
 ·rw[if_neg (fun h9=>hm (firsts_mem.1 h9)),if_neg hm]
theorem firsts_nodup:∀ t:List By,(firsts t).Nodup:=by
 have gen:∀ (t acc:List By),acc.Nodup->(t.foldl (fun acc x=>if x∈acc then acc else acc++[x]) acc).Nodup:=by
  intro t
  induction t with
  | nil=>intro acc h;exact h
  | cons y t ih =>
   intro acc h;rw[Ge];refine ih _ ?_;split
   ·exact h
   ·rename_i hy;rw[List.nodup_append];exact⟨h,oZ,fun a ha b hb=>by rw[B9]at hb;rw[hb];intro e;exact hy (e▸ha)⟩
 exact fun t=>gen t [] List.nodup_nil
def mkp (f id:Int) (t:List By) (x:By):Post:=⟨f,x,id,places t x⟩
def fposts (f id:Int) (t:List By):List Post:=(firsts t).map (mkp f id t)
def posts (r:Rd):List Post:=fposts 0 r.id (terms r.fields 0)++(fposts 1 r.id (terms r.fields 1)++(fposts 2 r.id (terms r.fields 2)++(fposts 3 r.id (terms r.fields 3)++fposts 4 r.id (terms r.fields 4))))
theorem fposts_mem {f id:Int}{t:List By}{p:Post}:p∈fposts f id t↔p.fld=f/\p.id=id/\p.word∈t/\p.at_=places t p.word:=by
 unfold fposts;rw[List.mem_map];constructor
 ·rintro⟨x,hx,rfl⟩;exact⟨rfl,rfl,firsts_mem.1 hx,rfl⟩
 ·rintro⟨h1,h2,h3,h4⟩;refine⟨p.word,firsts_mem.2 h3,?_⟩;cases p;simp only at h1 h2 h4;subst h1 h2 h4;rfl
theorem posts_mem {r:Rd}{p:Post}:p∈posts r↔0<=p.fld/\p.fld<=4/\p.id=r.id/\p.word∈terms r.fields p.fld/\p.at_=places (terms r.fields p.fld) p.word:=by
 unfold posts;simp only[AQ,fposts_mem];constructor
 ·rintro (⟨h1,h2,h3,h4⟩ | ⟨h1,h2,h3,h4⟩ | ⟨h1,h2,h3,h4⟩ | ⟨h1,h2,h3,h4⟩ | ⟨h1,h2,h3,h4⟩) <;> rw[h1] <;> exact⟨oQ,oQ,h2,h3,h4⟩
 ·rintro⟨h1,h2,h3,h4,h5⟩;rcases (by omega:p.fld=0\/p.fld=1\/p.fld=2\/p.fld=3\/p.fld=4) with h | h | h | h | h <;> rw[h]at h4 h5
  ·exact .inl ⟨h,h3,h4,h5⟩
  ·exact .inr (.inl ⟨h,h3,h4,h5⟩)
  ·exact .inr (.inr (.inl ⟨h,h3,h4,h5⟩))
  ·exact .inr (.inr (.inr (.inl ⟨h,h3,h4,h5⟩)))
  ·exact .inr (.inr (.inr (.inr ⟨h,h3,h4,h5⟩)))
theorem fposts_own (f id:Int) (t:List By):Ownk (fposts f id t):=by
 unfold fposts Ownk;rw[List.pairwise_map];exact (firsts_nodup t).imp fun h e=>h e.2.1
theorem ownk_app {a b:List Post} (ha:Ownk a) (hb:Ownk b) (h:∀ x∈a,∀ y∈b,¬ sameK x y):Ownk (a++b):=List.pairwise_append.2 ⟨ha,hb,h⟩
theorem ymt (h:P:=by
 rcases AQ.1 hy with hy | hy
 ·exact key _ _ _ _ oX x hx y hy
 ·rcases AQ.1 hy with hy | hy <;> exact key _ _ _ _ oX x hx y hy):P:=h
theorem posts_own (r:Rd):Ownk (posts r):=by
 have key:∀ (f g:Int) (s t:List By),f≠g->∀ x∈fposts f r.id s,∀ y∈fposts g r.id t,¬ sameK x y:=fun f g s t hne x hx y hy e=>by
  have h1:=(fposts_mem.1 hx).1;have h2:=(fposts_mem.1 hy).1;have h3:=e.1;omega
 unfold posts;refine ownk_app (fposts_own ..) (ownk_app (fposts_own ..) (ownk_app (fposts_own ..) (ownk_app (fposts_own ..) (fposts_own ..) ?_) ?_) ?_) ?_
 ·exact key _ _ _ _ oX
 ·intro x hx y hy;rcases AQ.1 hy with hy | hy <;> exact key _ _ _ _ oX x hx y hy
 ·intro x hx y hy;exact ymt
 ·intro x hx y hy;rcases AQ.1 hy with hy | hy
  ·exact key _ _ _ _ oX x hx y hy
  ·exact ymt
def known (x:List Post) (id:Int):Bool:=x.any fun p=>p.id == id
def add (x:List Post) (r:Rd):List Post:=if r.id<1\/known x r.id=true then x else (posts r).foldl ins x
def met (l:List Rd) (k:Nat) (r:Rd):Bool:=(l.take k).any fun q=>q.id == r.id
def bld (l:List Rd):Nat->List Post
 | 0=>[]
 | k+1=>match l[k]? with
  | some r=>if met l k r=true then bld l k else add (bld l k) r
  | none=>bld l k
def build (l:List Rd):List Post:=bld l l.length
theorem bld_succ {l:List Rd}{k:Nat}{r:Rd} (h:l[k]?=A3 r):bld l (k+1)=if met l k r=true then bld l k else add (bld l k) r:=by rw[bld,h]
def chs (l:List Rd):Nat->List Rd
 | 0=>[]
 | k+1=>match l[k]? with
  | some r=>if r.id<1\/met l k r=true then chs l k else chs l k++[r]
  | none=>chs l k
theorem chs_succ {l:List Rd}{k:Nat}{r:Rd} (h:l[k]?=A3 r):chs l (k+1)=if r.id<1\/met l k r=true then chs l k else chs l k++[r]:=by rw[chs,h]
theorem chs_mem {l:List Rd}:∀ {k:Nat}{r:Rd},r∈chs l k->1<=r.id/\r∈l.take k
 | 0,r,h=>by cases h
 | k+1,r,h=>by
  cases hk:l[k]? with
  | none =>
   rw[chs,hk]at h;have:=chs_mem h;exact⟨this.1,Dc (i:=k) (by rw[List.take_take,H4 oQ];exact this.2)⟩
  | some q =>
   rw[chs_succ hk]at h;rw[take_snoc hk,AQ];split at h
   ·exact⟨(chs_mem h).1,.inl (chs_mem h).2⟩
   ·rename_i hn;rcases AQ.1 h with h | h
    ·exact⟨(chs_mem h).1,.inl (chs_mem h).2⟩
    ·rw[B9]at h;subst h;exact⟨oQ,.inr oZ⟩
theorem known_iff {x:List Post}{id:Int}:known x id=true↔∃ p∈x,p.id=id:=by
 unfold known;simp
theorem met_iff {l:List Rd}{k:Nat}{r:Rd}:met l k r=true↔∃ q∈l.take k,q.id=r.id:=by
 unfold met;simp
theorem posts_id {r:Rd}{p:Post} (h:p∈posts r):p.id=r.id:=(posts_mem.1 h).2.2.1
theorem chs_own (l:List Rd):∀ k,Ownk ((chs l k).flatMap posts)
 | 0=>Gj
 | k+1=>by
  cases hk:l[k]? with
  | none=>rw[chs,hk];exact chs_own l k
  | some q =>
   rw[chs_succ hk];split
   ·exact chs_own l k
   ·rename_i hn;rw[AR];refine ownk_app (chs_own l k) (by simpa using posts_own q) fun x hx y hy e=>?_;obtain⟨r,hr,hx⟩:=zqe;replace hy:y∈posts q:=by simpa using hy
    refine hn (.inr (met_iff.2 ⟨r,(chs_mem hr).2,?_⟩));rw[<- posts_id hx,<- posts_id hy];exact e.2.2
theorem bld_eq (l:List Rd):∀ k,bld l k=((chs l k).flatMap posts).foldl ins []
 | 0=>rfl
 | k+1=>by
  have ih:=bld_eq l k;cases hk:l[k]? with
  | none=>rw[bld,hk,chs,hk];exact ih
  | some r =>
   rw[bld_succ hk,chs_succ hk];by_cases hm:met l k r=true
   ·rw[if_pos hm,if_pos (.inr hm)];exact ih
   ·rw[if_neg hm];unfold add;by_cases h1:r.id<1
    ·rw[if_pos (.inl h1),if_pos (.inl h1)];exact ih
    ·have hkn:¬ known (bld l k) r.id=true:=by
      intro h9;obtain⟨p,hp,e⟩:=known_iff.1 h9;rw[ih]at hp;have hp2:=(fold_perm _ _).mem_iff.1 hp;rw[C8]at hp2;obtain⟨q,hq,hp3⟩:=List.mem_flatMap.1 hp2;exact hm (met_iff.2 ⟨q,(chs_mem hq).2,by rw[<- posts_id hp3];exact e⟩)
     rw[if_neg (by rintro (h | h);exact h1 h;exact hkn h),if_neg (by rintro (h | h);exact h1 h;exact hm h),AR,Ha,ih];simp
theorem bld_asc (l:List Rd) (k:Nat):Asc (bld l k):=by
 rw[bld_eq];exact fold_asc _ _ Gj (by rw[C8];exact chs_own l k)
theorem build_sorted {l:List Rd}{s:List Post} (hp:s.Perm ((chs l l.length).flatMap posts)) (hs:s.Pairwise fun x y=>ltK y x=false):s=build l:=by
 unfold build;rw[bld_eq];exact sorted_eq (acc:=[]) Gj (by rw[C8];exact chs_own l _) (by rw[C8];exact hp) hs
def word (x:List Post) (f:Int) (s:By):List Int:=Cp.puts Cp.ltI ((x.filter fun p=>decide (p.fld=f)&&(p.word == s)).map (·.id))
def begP (s w:By):Bool:=w.take s.length == s
def prefix_ (x:List Post) (f:Int) (s:By):List Int:=Cp.puts Cp.ltI ((x.filter fun p=>!(s == [])&&(decide (p.fld=f)&&begP s p.word)).map (·.id))
def at_ (x:List Post) (f:Int) (s:By) (id start:Int) (far:Nat):Bool:=x.any fun p=>decide (p.fld=f)&&(p.word == s)&&(p.id == id)&&p.at_.any fun n=>decide (IntKind.i64.wrap (n - far)=start)
def folF (x:List Post) (f id start:Int):Nat->List By->Bool
 | _,[]=>true
 | j,s::l=>at_ x f s id start j&&folF x f id start (j+1) l
def phr (x:List Post) (f:Int) (ws:List By):List Int:=match ws with
 | []=>[]
 | s::l=>(x.filter fun p=>decide (p.fld=f)&&(p.word == s)).flatMap fun p=>(p.at_.filter fun n=>folF x f p.id n 1 l).map fun _=>p.id
def phrase (x:List Post) (f:Int) (ws:List By):List Int:=Cp.puts Cp.ltI (phr x f ws)
end Ix
theorem info_int:(A8.info? 3).map (fun i=>(i.zero,i.size,i.bytes))=A3 (A3 (.int .i64 0),1,8):=by kernel_rfl
theorem info_post:(A8.info? 100).map (fun i=>(i.zero,i.size,i.bytes))=A3 (A3 (.agg #[.int .i64 0,.string ⟨#[]⟩,.int .i64 0,.slice A0 0 0]),4,56):=by kernel_rfl
namespace Ix
open Rc
abbrev IA (w:Ab) (a:Option Aq) (c:Nat) (xs:List Int):Prop:=Br.FA (fun x:Int=>[B3 .i64 x]) 1 w a c xs
theorem flat_int (xs:List Int):xs.flatMap (fun x=>[B3 .i64 x])=xs.map (B3 .i64):=by
 induction xs with
 | nil=>rfl
 | cons x r ih=>simp[ih]
theorem IA.of_own {w:Ab}{B e n:Nat}{v:Ak}{xs:List Int} (h:w.ownsRow B e 1 v n (xs.map (B3 .i64))) (hn:n=xs.length):∃ a c,v=.slice a xs.length c/\IA w a c xs/\(∀ g,a=A3 g->B<=g.block):=by
 obtain⟨a,c,e1,h1,h2⟩:=Br.FA.of_own (enc:=fun x:Int=>[B3 .i64 x]) (fun _=>rfl) (by rw[flat_int];exact h) hn;exact⟨a,c,e1,h1,h2⟩
theorem IA.cell {w:Ab}{a:Option Aq}{c:Nat}{xs:List Int} (h:IA w a c xs) {k:Nat}{x:Int} (hk:xs[k]?=A3 x):∃ b o,a=A3 ⟨b,o,A0⟩/\b<w.heap.size/\w.cell? ⟨b,o+k,A0⟩=A3 (.int .i64 x):=by
 obtain⟨b,o,h1,h2,h3⟩:=h.get hk;have:=h3 0 _ rfl;rw[Nat.mul_one,BN]at this;exact⟨b,o,h1,h2,this⟩
abbrev PT:=Post × Option Aq × Nat
abbrev encP (t:PT):List Ak:=[.int .i64 t.1.fld,.string ⟨t.1.word.toArray⟩,.int .i64 t.1.id,.slice t.2.1 t.1.at_.length t.2.2]
theorem encP_len (t:PT):(encP t).length=4:=rfl
theorem p_one (t:PT):∀ u∈encP t,u.oneCell'=true:=by simp[encP,Value.oneCell']
def Ats (w:Ab) (T:List PT):Prop:=∀ t∈T,IA w t.2.1 t.2.2 t.1.at_
theorem Ats.below {w w':Ab}{T:List PT} (h:Ats w T) (hb:Aa w.heap.size w w'):Ats w' T:=fun t ht=>(h t ht).below hb
structure PsA (w:Ab) (a:Option Aq) (c:Nat) (T:List PT):Prop where
 fa:Br.FA encP 4 w a c T
 ats:Ats w T
theorem PsA.below {w w':Ab}{a:Option Aq}{c:Nat}{T:List PT} (h:PsA w a c T) (hb:Aa w.heap.size w w'):PsA w' a c T:=⟨h.fa.below hb,h.ats.below hb⟩
theorem PsA.get {w:Ab}{a:Option Aq}{c:Nat}{T:List PT} (h:PsA w a c T) {k:Nat}{t:PT} (hk:T[k]?=A3 t) :
  ∃ b o,a=A3 ⟨b,o,A0⟩/\b<w.heap.size/\w.cell? ⟨b,o+k*4,A0⟩=A3 (.int .i64 t.1.fld)/\w.cell? ⟨b,o+k*4+1,A0⟩=A3 (.string ⟨t.1.word.toArray⟩)/\w.cell? ⟨b,o+k*4+2,A0⟩=A3 (.int .i64 t.1.id) /\
   w.cell? ⟨b,o+k*4+3,A0⟩=A3 (.slice t.2.1 t.1.at_.length t.2.2)/\IA w t.2.1 t.2.2 t.1.at_:=by
 obtain⟨b,o,h1,h2,h3⟩:=h.fa.get hk;exact⟨b,o,h1,h2,h3 0 _ rfl,h3 1 _ rfl,h3 2 _ rfl,h3 3 _ rfl,h.ats t (AJ hk)⟩
abbrev OwnP (w':Ab) (B:Nat) (v:Ak) (T:List PT):Prop:=w'.ownsRow B 100 4 v T.length (T.flatMap encP)
theorem OwnP.ps {w:Ab}{B:Nat}{v:Ak}{T:List PT} (h:OwnP w B v T) (ha:Ats w T):∃ a c,v=.slice a T.length c/\PsA w a c T/\(∀ g,a=A3 g->B<=g.block):=by
 obtain⟨a,c,e,h1,h2⟩:=Br.FA.of_own encP_len h rfl;exact⟨a,c,e,⟨h1,ha⟩,h2⟩
theorem own_snoc {w:Ab}{B:Nat}{v:Ak}{T:List PT}{t:PT} (h:w.ownsRow B 100 4 v (T.length+1) (T.flatMap encP++encP t)):OwnP w B v (T++[t]):=by
 unfold OwnP;rw[Ag,AR];simpa using h
def insT:List PT->PT->List PT
 | [],x=>[x]
 | y::l,x=>if ltK x.1 y.1=true then x::y::l else y::insT l x
theorem insT_map:∀ (T:List PT) (t:PT),(insT T t).map (·.1)=ins (T.map (·.1)) t.1
 | [],t=>rfl
 | y::T,t=>by
  unfold insT;rw[BX,ins];split
  ·rfl
  ·rw[BX,insT_map T t]
theorem insT_len:∀ (T:List PT) (t:PT),(insT T t).length=T.length+1
 | [],_=>rfl
 | y::T,t=>by
  unfold insT;split
  ·rfl
  ·rw[AH,insT_len T t,AH]
theorem insT_mem:∀ {T:List PT}{t x:PT},x∈insT T t->x=t\/x∈T
 | [],t,x,h=>.inl (by simpa [insT] using h)
 | y::T,t,x,h=>by
  unfold insT at h;split at h
  ·rcases AL.1 h with h | h
   ·exact .inl h
   ·exact .inr h
  ·rcases AL.1 h with h | h
   ·exact .inr (h▸B8 ..)
   ·rcases insT_mem h with h | h
    ·exact .inl h
    ·exact .inr (BH _ h)
theorem row_lower {w:Ab}{B B2 e size n:Nat}{v:Ak}{xs:List Ak} (h:w.ownsRow B2 e size v n xs) (hB:B<=B2):w.ownsRow B e size v n xs:=⟨h.1,by
 rcases h.2 with h1 | ⟨g,cap,cur,h1,h2,h3,h4⟩
 ·exact .inl h1
 ·exact .inr ⟨g,cap,cur,h1,oQ,h3,h4⟩⟩
theorem drop_cons {α:Type}{l:List α}{k:Nat}{x:α} (h:l[k]?=A3 x):l.drop k=x::l.drop (k+1):=by
 have hlt:=zdc;rw[BT hlt];rw[Ai hlt]at h;injection h with h;rw[h]
end Ix
theorem ydj (h:P:=by
 go_enter Tryz.func79,Tryz.ntmps79;go_wp2;go_ret;exact⟨by rw[HR.out];rfl,hB⟩):P:=h
theorem r20_before_c (p q:Ix.Post) (pa qa:Option Aq) (pc qc:Nat) (w:Ab) :
  Af A8 79 #[.agg #[.int .i64 p.fld,.string ⟨p.word.toArray⟩,.int .i64 p.id,.slice pa p.at_.length pc],.agg #[.int .i64 q.fld,.string ⟨q.word.toArray⟩,.int .i64 q.id,.slice qa q.at_.length qc]] w fun e w'=>e=.returned (.bool (KY p q))/\Aa w.heap.size w w':=by
 obtain⟨W,hW⟩:∃ W,(w.alloc (.cells #[.int .i64 p.fld,.string ⟨p.word.toArray⟩,.int .i64 p.id,.slice pa p.at_.length pc] 100)).alloc (.cells #[.int .i64 q.fld,.string ⟨q.word.toArray⟩,.int .i64 q.id,.slice qa q.at_.length qc] 100)=W:=⟨_,rfl⟩;have hB:=zfd;have c0:W.cell? ⟨w.heap.size,0,A0⟩=A3 (.int .i64 p.fld):=by rw[<- hW];simp
 have c1:W.cell? ⟨w.heap.size,1,A0⟩=A3 (.string ⟨p.word.toArray⟩):=by rw[<- hW];simp
 have c2:W.cell? ⟨w.heap.size,2,A0⟩=A3 (.int .i64 p.id):=by rw[<- hW];simp
 have d0:W.cell? ⟨w.heap.size+1,0,A0⟩=A3 (.int .i64 q.fld):=by rw[<- hW];simp
 have d1:W.cell? ⟨w.heap.size+1,1,A0⟩=A3 (.string ⟨q.word.toArray⟩):=by rw[<- hW];simp
 have d2:W.cell? ⟨w.heap.size+1,2,A0⟩=A3 (.int .i64 q.id):=by rw[<- hW];simp
 by_cases e0:p.fld=q.fld
 ·have t0:(p.fld != q.fld)=false:=by simpa using e0
  by_cases e1:p.word=q.word
  ·have t1:(p.word == q.word)=true:=by simpa using e1
   have hr:KY p q=decide (p.id<q.id):=by unfold KY Cp.ltI Cp.ltB;rw[e0,e1];simp[List.lt_irrefl]
   have HR:=J hr;clear hr e0 e1;exact ydj
  ·have t1:(p.word == q.word)=false:=by simpa using e1
   have hbl:Op.bytesLess p.word q.word=decide (p.word<q.word):=Go.Proofs.bytesLess_eq _ _;have hr:KY p q=Op.bytesLess p.word q.word:=by rw[hbl];unfold KY Cp.ltI Cp.ltB;rw[e0];simp[e1]
   have HR:=J hr;clear hr hbl e0 e1;exact ydj
 ·have t0:(p.fld != q.fld)=true:=by simpa using e0
  have hr:KY p q=decide (p.fld<q.fld):=by unfold KY Cp.ltI;simp[e0]
  have HR:=J hr;clear hr e0;exact ydj
theorem r20_put_c (T:List Ix.PT) (t:Ix.PT) (a:Option Aq) (c:Nat) (w:Ab) (h:Br.FA Ix.encP 4 w a c T) (hn:T.length<=1000000000000) :
  Af A8 145 #[.slice a T.length c,.agg #[.int .i64 t.1.fld,.string ⟨t.1.word.toArray⟩,.int .i64 t.1.id,.slice t.2.1 t.1.at_.length t.2.2]] w fun e w'=>∃ v,e=.returned v/\Ix.OwnP w' w.heap.size v (Ix.insT T t)/\Aa w.heap.size w w':=by
 obtain⟨i0,hi0,hz0,hz1,hz2⟩:=info_parts info_post;have HI:=J hi0;clear hi0;have hcap:=h.cap;obtain⟨W,hW,hB,c0,c1,c2,c3⟩:=Tx.ent4 w (.int .i64 t.1.fld) (.string ⟨t.1.word.toArray⟩) (.int .i64 t.1.id) (.slice t.2.1 t.1.at_.length t.2.2) 100;have HS:=J (h.below hB);clear h;have hbB:=hB.size;go_enter Tryz.func145,Tryz.ntmps145;go_wp2;clear hW;go_loopw [5,6,7] (fun v d i wr=>∃ (k:Nat) (L:List Ix.PT) (d0:Bool),k<=T.length/\i=.int .i64 k/\d=.bool d0/\Hid (L++(if d0=true then T.drop k else Ix.insT (T.drop k) t)=Ix.insT T t)/\L.length<=2*k/\Ix.OwnP wr W.heap.size v L/\Aa W.heap.size W wr) (fun _ _ i _=>T.length - (Aj i).toNat)
 case atStart=>exact⟨0,[],false,Am _,rfl,rfl,J oZ,oZ,AI _ _ _ _,Ah _ _⟩
 case round =>
  obtain⟨k,L,d,hk,rfl,rfl,hE,hL,hown,hb⟩:=hrel;have hbs:=hb.size;replace c0:=A4 hb c0;replace c1:=A4 hb c1;replace c2:=A4 hb c2;replace c3:=A4 hb c3;have HK:Hid (L.length<=2000000000001):=J oQ;by_cases hlt:k<T.length
  ·obtain⟨y,hy⟩:=zaz;have hdr:=Ix.drop_cons hy;obtain⟨b,o,rfl,hbl,hcs⟩:=zkd;have f0:=hcs 0 _ rfl;have f1:=hcs 1 _ rfl;have f2:=hcs 2 _ rfl;have f3:=hcs 3 _ rfl;rw[BN]at f0;have e0:=A4 hb f0;have e1:=A4 hb f1;have e2:=A4 hb f2;have e3:=A4 hb f3;clear hcs;cases d with
   | true =>
    have HN:Hid ((L++[y])++(if true=true then T.drop (k+1) else Ix.insT (T.drop (k+1)) t)=Ix.insT T t):=J (by
     rw[<- hE.out,if_pos rfl,if_pos rfl,hdr,AW];rfl)
    clear hdr hy hE;go_wp2;go_quiet (fail);have hbq:=zgj;have hown3:=B4 hown hbq;have hb3:=Ac hb hbq;have hb3s:=hb3.size;have g0:=A4 hb3 f0;have g1:=A4 hb3 f1;have g2:=A4 hb3 f2;have g3:=A4 hb3 f3;clear hbq;generalize wr.drewN nq=w3 at *;go_wp2_with (at_builtin;go_must (refine wpList_append_sl rfl _ _ 22 rfl W.heap.size 100 i0 _ 4 56 Fs HI.out hz0 hz1 hz2 rfl oX _ (L.length) _ rfl (hown3.alloc _) (A3 ⟨_,0,A0⟩) 1 1 (Ix.encP y) rfl rfl oF qY (Ix.p_one y) aJ aW oW ?_);intro v7 w7 hown7 hg7 hnil7);go_roundw
    case rel=>exact⟨k+1,L++[y],true,hlt,by go_num,rfl,HN,by rw[Ag];simp;omega,Ix.own_snoc hown7,(hb3.alloc hb3s _).grown hg7 oW (fun j hj=>(hown3.lt j hj).1)⟩
    case measure=>simp[Aj];omega
   | false =>
    cases hq:KY t.1 y.1 with
    | true =>
     have HN:Hid (((L++[t])++[y])++(if true=true then T.drop (k+1) else Ix.insT (T.drop (k+1)) t)=Ix.insT T t):=J (by
      rw[<- hE.out,if_pos rfl,if_neg oX,hdr,Ix.insT,if_pos hq,AW,AW];rfl)
     have HQ:=zlb;clear hdr hy hE hq
     have CB:Hid (∀ w',Af A8 79 #[.agg #[.int .i64 t.1.fld,.string ⟨t.1.word.toArray⟩,.int .i64 t.1.id,.slice t.2.1 t.1.at_.length t.2.2],.agg #[.int .i64 y.1.fld,.string ⟨y.1.word.toArray⟩,.int .i64 y.1.id,.slice y.2.1 y.1.at_.length y.2.2]] w' fun e w''=>e=.returned (.bool true)/\Aa w'.heap.size w' w''):=J (fun w'=>by
      have h9:=r20_before_c t.1 y.1 t.2.1 y.2.1 t.2.2 y.2.2 w';rw[HQ.out]at h9;exact h9)
     go_wp2;go_still_tail 8,oJ;change wpList _ _ _ _ _ wr.drew;have hbq:=zjv;generalize wr.drew=w2 at hbq ⊢;have HK2:Hid ((L++[t]).length<=2000000000002):=J zrz
     go_wp2_with (first
      |(at_builtin;refine wpList_append_sl rfl _ _ 22 rfl W.heap.size 100 i0 _ 4 56 Fs HI.out hz0 hz1 hz2 rfl oX _ ((L++[t]).length) _ rfl ((Ix.own_snoc hown7).alloc _) (A3 ⟨_,0,A0⟩) 1 1 (Ix.encP y) rfl rfl oF qY (Ix.p_one y) zsz (by have:=HK2.out;omega) oW ?_;intro v8 w8 hown8 hg8 hnil8;have hb8:Aa W.heap.size W w8:=(hb7.alloc hb7.size _).grown hg8 oW (fun j hj=>(hown7.lt j hj).1))
      |(at_builtin;go_must (refine wpList_append_sl rfl _ _ 22 rfl W.heap.size 100 i0 _ 4 56 Fs HI.out hz0 hz1 hz2 rfl oX _ (L.length) _ rfl (hown3.alloc _) (A3 ⟨_,0,A0⟩) 1 1 (Ix.encP t) rfl rfl oF UD (Ix.p_one t) aJ aW oW ?_);intro v7 w7 hown7 hg7 hnil7;have hb7:Aa W.heap.size W w7:=(hb3.alloc hb3s _).grown hg7 oW (fun j hj=>(hown3.lt j hj).1);have hb7s:=hb7.size;have p0:=A4 hb7 f0;have p1:=A4 hb7 f1;have p2:=A4 hb7 f2;have p3:=A4 hb7 f3)
      |(go_at_call 79;(with_reducible refine (CB.out _).mono ?_);rintro e w3 ⟨rfl,hb3x⟩;have hb3y:=Ac hbq hb3x;have hown3:=B4 hown hb3y;have hb3:=Ac hb hb3y;have hb3s:=hb3.size;have g0:=A4 hb3 f0;have g1:=A4 hb3 f1;have g2:=A4 hb3 f2;have g3:=A4 hb3 f3;have k0:=A4 hb3y c0;have k1:=A4 hb3y c1;have k2:=A4 hb3y c2;have k3:=A4 hb3y c3))
     go_roundw
     case rel=>exact⟨k+1,(L++[t])++[y],true,hlt,by go_num,rfl,HN,by simp;omega,Ix.own_snoc hown8,hb8⟩
     case measure=>simp[Aj];omega
    | false =>
     have HN:Hid ((L++[y])++(if false=true then T.drop (k+1) else Ix.insT (T.drop (k+1)) t)=Ix.insT T t):=J (by
      rw[<- hE.out,if_neg oX,if_neg oX,hdr,Ix.insT,if_neg (by rw[hq];decide),AW];rfl)
     have HQ:=zlb;clear hdr hy hE hq
     have CB:Hid (∀ w',Af A8 79 #[.agg #[.int .i64 t.1.fld,.string ⟨t.1.word.toArray⟩,.int .i64 t.1.id,.slice t.2.1 t.1.at_.length t.2.2],.agg #[.int .i64 y.1.fld,.string ⟨y.1.word.toArray⟩,.int .i64 y.1.id,.slice y.2.1 y.1.at_.length y.2.2]] w' fun e w''=>e=.returned (.bool false)/\Aa w'.heap.size w' w''):=J (fun w'=>by
      have h9:=r20_before_c t.1 y.1 t.2.1 y.2.1 t.2.2 y.2.2 w';rw[HQ.out]at h9;exact h9)
     go_wp2;go_still_tail 8,oJ;change wpList _ _ _ _ _ wr.drew;have hbq:=zjv;generalize wr.drew=w2 at hbq ⊢
     go_wp2_with (first
      |(at_builtin;refine wpList_append_sl rfl _ _ 22 rfl W.heap.size 100 i0 _ 4 56 Fs HI.out hz0 hz1 hz2 rfl oX _ (L.length) _ rfl (hown3.alloc _) (A3 ⟨_,0,A0⟩) 1 1 (Ix.encP y) rfl rfl oF qY (Ix.p_one y) aJ aW oW ?_;intro v7 w7 hown7 hg7 hnil7)
      |(go_at_call 79;(with_reducible refine (CB.out _).mono ?_);rintro e w3 ⟨rfl,hb3x⟩;have hb3y:=Ac hbq hb3x;have hown3:=B4 hown hb3y;have hb3:=Ac hb hb3y;have hb3s:=hb3.size;have g0:=A4 hb3 f0;have g1:=A4 hb3 f1;have g2:=A4 hb3 f2;have g3:=A4 hb3 f3;have k0:=A4 hb3y c0;have k1:=A4 hb3y c1;have k2:=A4 hb3y c2;have k3:=A4 hb3y c3))
     go_roundw
     case rel=>exact⟨k+1,L++[y],false,hlt,by go_num,rfl,HN,by rw[Ag];simp;omega,Ix.own_snoc hown7,(hb3.alloc hb3s _).grown hg7 oW (fun j hj=>(hown3.lt j hj).1)⟩
     case measure=>simp[Aj];omega
  ·obtain rfl:k=T.length:=oQ;cases d with
   | true =>
    have HN:=J hE.out;rw[if_pos rfl,Dd,AB]at HN;go_wp2;go_ret;exact⟨_,rfl,by rw[<- HN.out];exact Ix.row_lower hown hbB,Ac hB hb⟩
   | false =>
    have HN:=J hE.out;rw[if_neg oX,Dd,Ix.insT]at HN;go_wp2_with (at_builtin;go_must (refine wpList_append_sl rfl _ _ 22 rfl W.heap.size 100 i0 _ 4 56 Fs HI.out hz0 hz1 hz2 rfl oX _ (L.length) _ rfl (hown.alloc _) (A3 ⟨_,0,A0⟩) 1 1 (Ix.encP t) rfl rfl oF UD (Ix.p_one t) aJ aW oW ?_);intro v7 w7 hown7 hg7 hnil7);go_ret;exact⟨_,rfl,by rw[<- HN.out];exact Ix.row_lower (Ix.own_snoc hown7) hbB,Ac hB ((hb.alloc hbs _).grown hg7 oW (fun j hj=>(hown.lt j hj).1))⟩
namespace Ix
def numC (c:Int):Int:=if c=45\/c=32\/c=160 then -1 else if 65<=c/\c<=90 then c+32 else c
theorem rdec_shape {l:By} (h:(Cv l).2≠0) (hne:l≠[]) :
  (∃ b r,l=b::r/\32<=b.toNat/\b.toNat<127/\Cv l=(b.toNat,1)) \/
  (∃ b d r,l=b::d::r/\194<=b.toNat/\b.toNat<224/\128<=d.toNat/\d.toNat<192/\160<=(b.toNat - 192)*64+d.toNat - 128/\Cv l=((b.toNat - 192)*64+d.toNat - 128,2)) \/
  (∃ b d e r,l=b::d::e::r/\224<=b.toNat/\b.toNat<240/\128<=d.toNat/\d.toNat<192/\128<=e.toNat/\e.toNat<192/\∃ u,2048<=u/\Cv l=(u,3)):=by
 cases l with
 | nil=>exact absurd rfl hne
 | cons b r =>
  unfold Cv Tx.rdecN at h ⊢;simp only[List.getD_cons_zero,AH]at h ⊢;by_cases h1:32<=b.toNat/\b.toNat<127
  ·exact .inl ⟨b,r,rfl,h1.1,h1.2,by rw[if_pos h1]⟩
  ·rw[if_neg h1]at h ⊢;cases r with
   | nil=>simp at h
   | cons d r =>
    simp only[AH]at h ⊢;rw[show (b::d::r).getD 1 0=d from rfl]at h ⊢;by_cases h2:194<=b.toNat/\b.toNat<224/\1<r.length+1+1/\128<=d.toNat/\d.toNat<192
    ·rw[if_pos h2]at h ⊢;by_cases h3:160<=(b.toNat - 192)*64+d.toNat - 128
     ·rw[if_pos h3];exact .inr (.inl ⟨b,d,r,rfl,h2.1,h2.2.1,h2.2.2.2.1,h2.2.2.2.2,h3,rfl⟩)
     ·rw[if_neg h3]at h;exact absurd rfl h
    ·rw[if_neg h2]at h ⊢;cases r with
     | nil=>simp at h
     | cons e r =>
      simp only[AH]at h ⊢;rw[show (b::d::e::r).getD 2 0=e from rfl]at h ⊢;by_cases h4:224<=b.toNat/\b.toNat<240/\2<r.length+1+1+1/\128<=d.toNat/\d.toNat<192/\128<=e.toNat/\e.toNat<192
      ·rw[if_pos h4]at h ⊢;split
       ·rename_i h5;exact .inr (.inr ⟨b,d,e,r,rfl,h4.1,h4.2.1,h4.2.2.2.1,h4.2.2.2.2.1,h4.2.2.2.2.2.1,h4.2.2.2.2.2.2,_,h5.1,rfl⟩)
       ·rename_i h5;rw[if_neg h5]at h;exact absurd rfl h
      ·rw[if_neg h4]at h;exact absurd rfl h
theorem plain_high {b:UInt8} (r:By) (h1:128<=b.toNat) (h2:b.toNat≠194\/r.head?≠A3 160):plainB (b::r)=b::plainB r:=by
 rw[plainB_cons,if_neg,if_neg,if_neg]
 ·omega
 ·rintro⟨e1,e2⟩;rcases h2 with h2 | h2
  ·rw[e1]at h2;exact h2 rfl
  ·exact h2 e2
 ·rintro (e | e) <;> rw[e]at h1 <;> simp at h1
theorem enc_low (c:Nat) (h:c<128):FV (c:Int)=[Dm c]:=by
 unfold FV;rw[Lib.encodeRuneZ_one oQ oQ];simp
theorem plain_map:∀ (n:Nat) (l:By),l.length<=n->Tx.valid l=true->Lib.mapD numC l=plainB l
 | 0,l,h,_=>by
  have:=Ar (by omega:l.length=0);subst this;rw[Lib.mapD_nil,plainB_nil]
 | n+1,l,h,hv=>by
  by_cases hne:l=[]
  ·subst hne;rw[Lib.mapD_nil,plainB_nil]
  ·obtain⟨h0,hde,hwid,hvr,hok⟩:=Tx.valid_head hne hv;rw[hwid]at hvr;rcases rdec_shape h0 hne with⟨b,r,rfl,g1,g2,hr⟩ | ⟨b,d,r,rfl,g1,g2,g3,g4,g5,hr⟩ | ⟨b,d,e,r,rfl,g1,g2,g3,g4,g5,g6,u,g7,hr⟩
   ·rw[hr]at hde hvr;have ih:=zhk;rw[Lib.mapD_step numC _ hne,hde,plainB_cons];simp only[I9,AU];rw[ih];by_cases c1:b=45\/b=32
    ·have hn:numC (b.toNat:Int)=-1:=by
      unfold numC;rw[if_pos];rcases c1 with e | e
      ·rw[e];exact .inl rfl
      ·rw[e];exact .inr (.inl rfl)
     rw[hn,if_pos c1,if_neg oX];rfl
    ·have k1:b.toNat≠45:=fun e=>c1 (.inl (EF.1 iQ));have k2:b.toNat≠32:=fun e=>c1 (.inr (EF.1 iQ));by_cases c2:65<=b.toNat/\b.toNat<=90
     ·have hn:numC (b.toNat:Int)=((b.toNat+32:Nat):Int):=by
       unfold numC;rw[if_neg oQ,if_pos oQ];omega
      have e2:Dm (b.toNat+32)=b+32:=by
       apply EF.1;rw[UInt8.toNat_add];simp
      rw[hn,if_pos oQ,enc_low _ oQ,e2,if_neg c1,if_neg zsn,if_pos c2];rfl
     ·have hn:numC (b.toNat:Int)=(b.toNat:Int):=by
       unfold numC;rw[if_neg oQ,if_neg oQ]
      rw[hn,if_pos oQ,enc_low _ oQ,KE,if_neg c1,if_neg zsn,if_neg c2];rfl
   ·rw[hr]at hde hvr;have ih:=zhk;by_cases c1:(b.toNat - 192)*64+d.toNat - 128=160
    ·have e1:b=194:=EF.1 (by show b.toNat=194;omega);have e2:d=160:=EF.1 (by show d.toNat=160;omega);subst e1 e2;have hp:plainB (194::160::r)=plainB r:=by rw[plainB_cons,if_neg oX,if_pos ⟨rfl,rfl⟩];rfl
     have hn:numC ((((194:UInt8).toNat - 192)*64+(160:UInt8).toNat - 128:Nat):Int)=-1:=oX;rw[Lib.mapD_step numC _ hne,hde,hp];simp only[I9,AU];rw[ih,hn,if_neg oX];rfl
    ·have hf:numC (((b.toNat - 192)*64+d.toNat - 128:Nat):Int)=(((b.toNat - 192)*64+d.toNat - 128:Nat):Int):=by
      unfold numC;rw[if_neg oQ,if_neg oQ]
     rw[Lib.mapD_same numC _ hne (by rw[hde];exact hf) zsy,hde];simp only[I9,AU,El,BJ]
     rw[ih,plain_high _ oQ (by
      by_cases e:b.toNat=194
      ·refine .inr (fun h9=>?_);simp at h9;rw[h9]at c1;exact c1 iQ
      ·exact .inl e),plain_high _ oQ (.inl oQ)]
     rfl
   ·rw[hr]at hde hvr;have ih:=zhk
    have hf:numC (u:Int)=(u:Int):=by
     unfold numC;rw[if_neg oQ,if_neg oQ]
    rw[Lib.mapD_same numC _ hne (by rw[hde];exact hf) zsy,hde];simp only[I9,AU,El,BJ];rw[ih,plain_high _ oQ (.inl oQ),plain_high _ oQ (.inl oQ),plain_high _ oQ (.inl oQ)];rfl
end Ix
end Go.Proofs.YtlakomilichhnaaGreatDoor
