/- Parts. -/
import Derived.Test.YtlakomilichhnaaGreatDoorROp
import Derived.Test.YtlakomilichhnaaGreatDoorROr
import Derived.Test.YtlakomilichhnaaGreatDoorROy
import Derived.StillTailTactics
namespace Go.Proofs.YtlakomilichhnaaGreatDoor
set_option maxHeartbeats 3200000
set_option maxRecDepth 100000
open Go.RowKit
open Bool renaming eq_iff_iff->Bx
open Go renaming Addr->Aq,Calls->Af,Value->Ak,World->Ab,cell_later->A4,maxLen->Ap
open Lib renaming hid->J,toList_data->AG
open List renaming drop_length->Dd,getElem?_eq_getElem->Ai,length_map->Ax,map_map->DF,mem_of_getElem?->AJ,take_append_drop->BY,take_length->At,take_zero->BJ
open Nat renaming le_refl->Ad,le_trans->Au,zero_le->Am
open Proofs renaming intOf->Aj
open Proofs.Tryz renaming func214->J9,func253->Kc,ntmps214->Ig,ntmps253->Jw,prog->A8
open Qr renaming QC->D6,Qy->Cq,isWord->GJ,nodes->Eb,rightE->GH,treeE->Jj,treeL->Fq,wordsB->Bp
open RowKit renaming Below->Aa
open RowKit.Below renaming refl->Ah
open Tx renaming newb->A9,ret1->AV,retb->AX,valid->AE,words->Bl
variable {P:Prop}
theorem below_drewN {w:Ab}{q:Nat}:Aa w.heap.size w (w.drewN q):=⟨rfl,rfl,rfl,Ad _,fun _ _=>rfl⟩
theorem Equal_c (v1 v2:Ak) (xs ys:List ByteArray) (w:Ab) (h1:SL w v1 xs) (h2:SL w v2 ys) (hn1:xs.length<=1000000000) (hn2:ys.length<=1000000000) :
  Af A8 136 #[v1,v2] w fun e w'=>e=.returned (.bool (decide (xs=ys)))/\Aa w.heap.size w w':=by
 obtain⟨a1,k1,rfl,g1⟩:=h1.sla;obtain⟨a2,k2,rfl,g2⟩:=h2.sla;by_cases hx:xs=[]
 ·subst hx;refine (Tryz.slices_Equal_string_empty a1 a2 k1 ys.length k2 w oQ).mono ?_;rintro e w' ⟨rfl,rfl⟩;refine⟨AX ?_,Ah _ _⟩;cases ys <;> simp
 ·have S1:=g1 hx;by_cases hy:ys=[]
  ·subst hy
   have hlen:¬ ((xs.length:Int)=0):=by
    intro h;exact hx (List.eq_nil_of_length_eq_zero oQ)
   have hd:decide (xs=[])=false:=by simpa using hx
   have HD:=J hd;clear hd;clear h1 h2 g1 g2 S1 hx;go_enter Tryz.func136,Tryz.ntmps136;go_wp2;go_ret;exact⟨AX HD.out.symm,Ah _ _⟩
  ·have S2:=g2 hy;obtain⟨b1,o1,hat1,hc1⟩:=S1.at_;obtain⟨b2,o2,hat2,hc2⟩:=S2.at_;obtain⟨rfl,_⟩:=hat1 hx;obtain⟨rfl,_⟩:=hat2 hy;refine (Tryz.slices_Equal_string b1 o1 xs.length k1 b2 o2 ys.length k2 xs ys w (Ad _) (Ad _) oQ oQ (fun j hj=>?_) (fun j hj=>?_)).mono ?_
   ·exact hc1 j _ uY
   ·exact hc2 j _ uY
   ·rintro e w' ⟨rfl,q,rfl⟩;exact⟨AX (by rw[At,At]),below_drewN⟩
theorem Tx.words_len {l:List UInt8} (hv:AE l=true):(Bl l).length<=2*l.length :=
 Au (Tx.fieldsT_good Tx.sepW (Tx.foldS_valid hv)).2.2 (Tx.foldS_len hv)
theorem SL_one (w:Ab) (x:ByteArray) (t:TypeId):SL (w.alloc (.cells #[.string x] t)) (.slice (some ⟨w.heap.size,0,none⟩) 1 1) [x]:=by
 refine .inr ⟨_,0,1,rfl,oZ,by unfold Ap;omega,oZ,fun j y hy=>?_⟩
 match j,hy with
 | 0,hy=>injection hy with hy;rw[<- hy];simp
 | j+1,hy=>simp at hy
namespace Qr
theorem QC.sla {B:Nat}{w:Ab}{op fl ya yb:Int}{ws:List ByteArray}{ks:List Qy}{sa ka:Option Aq}{sc kc:Nat}
  (h:QC B w (.mk op fl ws ya yb ks) [.int .i64 op,.int .i64 fl,.slice sa ws.length sc,.int .i64 ya,.int .i64 yb,.slice ka ks.length kc]) :
  SL w (.slice sa ws.length sc) ws/\(ws≠[]->SLA w sa sc ws)/\LowS B (.slice sa ws.length sc) ws/\KA B w ka kc ks:=by
 cases h with
 | mk hw hwb hl hk hf hfb =>
  refine⟨hw,fun hne=>?_,hwb,⟨_,hl,hk,hf,hfb⟩⟩;obtain⟨a,c,e,h1⟩:=hw.sla;injection e with e1 _ e2;subst e1;subst e2;exact h1 hne
theorem termE_3 {o f a b:Int}{ws:List ByteArray}{n:Nat} (h:ws.length<1\/(o≠3/\1<ws.length)\/a≠0\/b≠0\/0<n):termE o f ws a b n=3:=by unfold termE;rw[if_pos h]
theorem termE_w {o f a b:Int}{ws:List ByteArray}{n:Nat} (h:ws.all isWord=false):termE o f ws a b n=3:=by
 unfold termE;rw[h];split <;> rfl
theorem termE_r {o f a b:Int}{ws:List ByteArray}{n:Nat} (h:¬ (ws.length<1\/(o≠3/\1<ws.length)\/a≠0\/b≠0\/0<n)) (hw:ws.all isWord=true):termE o f ws a b n=if 8<ws.length then 4 else if f<0\/4<f then 2 else 0:=by
 unfold termE;rw[if_neg h,if_neg eW]
theorem all_take {α:Type}{p:α->Bool}{l:List α}{k:Nat}{x:α} (h:l[k]?=some x) (ha:(l.take k).all p=true) (hx:p x=true):(l.take (k+1)).all p=true:=by
 rw[take_snoc h,List.all_append,ha];simp[hx]
theorem all_bad {α:Type}{p:α->Bool}{l:List α}{k:Nat}{x:α} (h:l[k]?=some x) (hx:p x=false):l.all p=false:=by
 rw[List.all_eq_false];exact⟨x,AJ h,by simp[hx]⟩
theorem words_one {xs:List ByteArray}{s:ByteArray} (h:xs.map (·.data.toList)=Bl s.data.toList):decide (xs=[s])=(Bl s.data.toList == [s.data.toList]):=by
 rw[<- h,Bx,decide_eq_true_iff,beq_iff_eq];constructor
 ·rintro rfl;rfl
 ·intro e;rcases xs with _ | ⟨x,_ | ⟨y,r⟩⟩
  ·simp at e
  ·simp only[List.map_cons,List.map_nil,List.cons.injEq,and_true]at e
   have:x=s:=by
    cases x;cases s;simp only[ByteArray.mk.injEq]at *;exact Array.toList_inj.1 e
   rw[this]
  ·simp at e
end Qr
theorem vy6 (h:P:=by
 go_wp2_with (first
   |(go_at_call 114;refine (text_Valid_c x _ oQ hGr).mono ?_;rintro e w1 ⟨rfl,hb1⟩;rw[HV.out])
   |(go_at_call 208;refine (text_Words_c x _ (hGr.below hb1) oQ HV.out).mono ?_;rintro e w2 ⟨A,xs,rfl,hws,hWA,hAl,hb2⟩;have HWS:=J hws;clear hws;have hxl:xs.length<=1000000000:=(by have:=congrArg List.length HWS.out;rw[Ax]at this;rw[this,Lib.size_eq]at *;omega))
   |(go_at_call 136;refine (Equal_c _ _ xs [x] _ (hWA.sl.below (A9 _ _)) (SL_one _ _ _) hxl oZ).mono ?_;rintro e w3 ⟨rfl,hb3⟩;rw[Qr.words_one HWS.out,HT.out]))
 first
  |go_roundw
   case rel=>exact⟨k+1,hlt,by go_num,J (Qr.all_take HX.out hall.out zsl),hb.trans ((hb1.trans ((hb2.trans (((A9 _ _).trans (hb3.mono oZ)).mono hb2.size)).mono hb1.size)).mono hb.size)⟩
   case measure=>simp[Aj];omega
  |go_ret
   exact⟨AV (HW0.out (Qr.all_bad HX.out zsl)).symm,hB.trans ((hb.trans ((hb1.trans ((hb2.trans (((A9 _ _).trans (hb3.mono oZ)).mono hb2.size)).mono hb1.size)).mono hb.size)).mono hB.size)⟩):P:=h
theorem vj3 (h:P:=by
 obtain⟨n,hnn⟩:∃ n,Eb q=n:=⟨_,rfl⟩;obtain⟨d,hdd⟩:∃ d,Qr.depth q=d:=⟨_,rfl⟩;have HNN:=J hnn;have HDD:=J hdd;rw[hnn]at hn hdn;rw[hdd]at hdn;clear hnn hdd;have hR:GH q=if 64<n\/8<d then 4 else Jj q:=by unfold GH;rw[HNN.out,HDD.out]
 have HR:=J hR;clear hR;by_cases g1:64<n
 first
  |·have g1m:min n (64+1)=65:=oQ
    have GM:=J g1m;clear g1m;exact up7
   ·have g1m:min n (64+1)=n:=oQ;have GM:=J g1m;clear g1m;by_cases g2:8<d
    ·exact up7
    ·exact up7
  |·exact uv3
   ·by_cases g2:8<d
    ·exact uv3
    ·exact uv3):P:=h
theorem v0f (h:P:=by
 obtain⟨x,hx⟩:=zdq;obtain⟨b,o,sa2,sc2,ka2,kc2,rfl,hbl,d0,d1,d2,d3,d4,d5,hq⟩:=(hS.below hb).get hx
 first
  |have HX:=J hx;clear hx hq
   by_cases hxo:x.op=op
   ·have HO:=J hxo;rw[hxo]at d0;clear hxo;have f0:(wr.alloc (.cells #[.int .i64 op,.int .i64 x.fld,.slice sa2 x.ws.length sc2,.int .i64 x.a,.int .i64 x.b,.slice ka2 x.ks.length kc2] 29)).cell? ⟨w.heap.size,0,none⟩=some (.int .i64 op):=A4 (A9 _ _) e0;go_wp2;go_ret;exact⟨AV YG,hB.trans ((hb.trans ((A9 _ _).mono hb.size)).mono hB.size)⟩
   ·have f0:(wr.alloc (.cells #[.int .i64 x.op,.int .i64 x.fld,.slice sa2 x.ws.length sc2,.int .i64 x.a,.int .i64 x.b,.slice ka2 x.ks.length kc2] 29)).cell? ⟨w.heap.size,0,none⟩=some (.int .i64 op):=A4 (A9 _ _) e0;go_wp2;go_roundw
    case rel=>exact⟨k+1,hlt,by go_num,J (Qr.any_take HX.out hall.out (by simpa using hxo)),hb.trans ((A9 _ _).mono hb.size)⟩
    case measure=>simp[Aj];omega
  |have hmem:=AJ hx
   have htk:=zrp;have HM:=J hmem;clear hmem;have HX:=J hq;clear hq;have HTK:=J htk;clear htk hx;have hGr:=hGW.below hb;by_cases hn0:n=0
   ·subst hn0;have hnx:Fq n0 (ks.take (k+1))=Jj x:=by rw[HTK.out,Qr.treeL_app,hn.out];simp[Fq]
    have HNX:=J hnx;clear hnx;go_wp2_with (go_at_call 200;refine (IH.out x HM.out _ _ (HX.out.later (A9 _ _)) (HN.out.ks x HM.out) (hGr.below (A9 _ _))).mono ?_;rintro e w2 ⟨rfl,hb2⟩);go_roundw
    case rel=>exact⟨k+1,_,hlt,by go_num,rfl,HNX,hb.trans (((A9 _ _).trans (hb2.mono oZ)).mono hb.size)⟩
    case measure=>simp[Aj];omega
   ·have hbad:=HEE.out _ _ hn.out;rw[Qr.treeL_bad hn0]at hbad;have HB:=J hbad;clear hbad;go_wp2;go_ret;exact⟨AV HB.out.symm,hB.trans ((hb.trans ((A9 _ _).mono hb.size)).mono hB.size)⟩
  |have HX:=J hx;clear hx hq
   by_cases hxo:x.op=op
   ·have HO:=J hxo;rw[hxo]at d0;clear hxo;go_wp2;go_quiet (fail);go_wp2;go_ret;exact⟨AV YG,hB.trans ((hb.trans (below_drewN.mono hb.size)).mono hB.size)⟩
   ·have hxb:(x.op == op)=false:=by simpa using hxo
    have HXO:=J hxo;clear hxo;go_wp2;go_quiet (fail);go_wp2;go_roundw
    case rel=>exact⟨k+1,hlt,by go_num,J (Qr.any_take HX.out hall.out (by simpa using HXO.out)),hb.trans (below_drewN.mono hb.size)⟩
    case measure=>simp[Aj];omega
  |have HX:=J hx;clear hx hq
   go_wp2;go_quiet (fail);go_wp2;go_roundw
   case rel=>exact⟨k+1,hlt,by go_num,J True.intro,hb.trans (below_drewN.mono hb.size)⟩
   case measure=>simp[Aj];omega):P:=h
theorem vmq (h:P:=by
 obtain⟨W,hW,hB,c0,c1,c2,c3,c4,c5⟩:=zdu
 first
  |have hS:=hK.below hB
   have hmax:=hK.max;have hmx:Ap=9223372036854775807:=rfl;have HQ:=J (h.later hB);clear h hK;have HN:=J hn;clear hn;have HT:=zet;obtain⟨n0,hn0⟩:=zje;have H0:=J hn0;clear hn0;by_cases hz0:n0=0
   ·subst hz0
    have HE:∀ (k:Nat),Fq 0 (ks.take k)=0->Jj (.mk op fl ws ya yb ks)=Fq 0 (ks.drop k):=by
     intro k he;rw[HT.out,H0.out]
     conv=>lhs;rw[<- BY k ks,Qr.treeL_app,he]
    have HEE:=J HE;clear HE HT;go_enter Tryz.func78,Tryz.ntmps78;go_wp2_with (go_at_call 146;refine (r21_node_c B op fl ya yb ws ks sa ka sc kc W HQ.out HN.out.ws).mono ?_;rintro e w1 ⟨rfl,hb1⟩;rw[H0.out];have e5:=zlf);clear hW c0 c1 c2 c3 c4 c5;go_loopw [4] (fun i wr=>∃ k:Nat,k<=ks.length/\i=.int .i64 k/\Hid (Fq 0 (ks.take k)=0)/\Aa w1.heap.size w1 wr) (fun i _=>ks.length - (Aj i).toNat)
    case atStart=>exact⟨0,Am _,rfl,J (by rw[BJ,Fq]),Ah _ _⟩
    case round =>
     obtain⟨k,hk,rfl,hall,hb⟩:=hrel;have f5:=A4 hb e5;by_cases hlt:k<ks.length
     ·obtain⟨x,hx⟩:=zdq;obtain⟨b,o,sa2,sc2,ka2,kc2,rfl,hbl,d0,d1,d2,d3,d4,d5,hq⟩:=((hS.below hb1).below hb).get hx;have hmem:=zgk;have htk:=zrp;have hdr:=List.drop_eq_getElem_cons hlt;have hxe:ks[k]=x:=by have:=Ai hlt;rw[hx]at this;exact (Option.some.inj this).symm
      rw[hxe]at hdr;have HD:=J hdr;clear hdr hxe;have HM:=J hmem;clear hmem;have HX:=J hq;clear hq;have HTK:=J htk;clear htk hx;obtain⟨r,hr⟩:∃ r,Jj x=r:=⟨_,rfl⟩;have HR:=J hr;clear hr
      have hend:Jj (.mk op fl ws ya yb ks)=Fq r (ks.drop (k+1)):=by
       rw[HEE.out k hall.out,HD.out,Fq,if_pos rfl,HR.out]
      have HF:=J hend;clear hend;by_cases hr0:r=0
      ·subst hr0;have hnx:Fq 0 (ks.take (k+1))=0:=by rw[HTK.out,Qr.treeL_app,hall.out];simp[Fq,HR.out]
       have HNX:=J hnx;clear hnx;go_wp2_with (go_at_call 78;refine (IH.out x HM.out _ _ HX.out (HN.out.ks x HM.out)).mono ?_;rintro e w2 ⟨rfl,hb2⟩;rw[HR.out]);go_roundw
       case rel=>exact⟨k+1,hlt,by go_num,HNX,hb.trans (hb2.mono hb.size)⟩
       case measure=>simp[Aj];omega
      ·have hbad:=HF.out;rw[Qr.treeL_bad hr0]at hbad;have HB:=J hbad;clear hbad;have hne:(r != 0)=true:=by simpa using hr0
       clear hr0;go_wp2_with (go_at_call 78;refine (IH.out x HM.out _ _ HX.out (HN.out.ks x HM.out)).mono ?_;rintro e w2 ⟨rfl,hb2⟩;rw[HR.out]);go_ret;exact⟨AV HB.out.symm,hB.trans ((hb1.trans ((hb.trans (hb2.mono hb.size)).mono hb1.size)).mono hB.size)⟩
     ·have hkk:=zlw;subst hkk;have hend:=HEE.out _ hall.out;rw[Dd,Fq]at hend;have HB:=J hend;clear hend;go_wp2;go_ret;exact⟨AV HB.out.symm,hB.trans ((hb1.trans (hb.mono hb1.size)).mono hB.size)⟩
   ·have hbad:=HT.out;rw[H0.out,Qr.treeL_bad hz0]at hbad;have HB:=J hbad;clear hbad HT;have hne:(n0 != 0)=true:=by simpa using hz0
    clear hz0;go_enter Tryz.func78,Tryz.ntmps78;go_wp2_with (go_at_call 146;refine (r21_node_c B op fl ya yb ws ks sa ka sc kc W HQ.out HN.out.ws).mono ?_;rintro e w1 ⟨rfl,hb1⟩;rw[H0.out]);go_ret;exact⟨AV HB.out.symm,hB.trans (hb1.mono hB.size)⟩
  |have hS:=hK.below hB
   have hmax:=hK.max;have hmx:Ap=9223372036854775807:=rfl;have hGW:=hG.below hB;have HQ:=J (h.later hB);clear h hK;have HN:=J hn;clear hn;have HT:=zet;obtain⟨n0,hn0⟩:=zje;have H0:=J hn0;clear hn0
   have HE:∀ (k:Nat) (e:Int),Fq n0 (ks.take k)=e->Jj (.mk op fl ws ya yb ks)=Fq e (ks.drop k):=by
    intro k e he;rw[HT.out,H0.out,<- he,<- Qr.treeL_app,BY]
   have HEE:=J HE;clear HE HT;rcases (show op=1\/op=2\/op=3\/op=4\/op=5\/op=6\/op=7\/(op≠1/\op≠2/\op≠3/\op≠4/\op≠5/\op≠6/\op≠7) by omega) with rfl | rfl | rfl | rfl | rfl | rfl | rfl | ⟨h1,h2,h3,h4,h5,h6,h7⟩
   all_goals
    try (have b1:=beq_eq_false_iff_ne.2 h1;have b2:=beq_eq_false_iff_ne.2 h2;have b3:=beq_eq_false_iff_ne.2 h3;have b4:=beq_eq_false_iff_ne.2 h4;have b5:=beq_eq_false_iff_ne.2 h5;have b6:=beq_eq_false_iff_ne.2 h6;have b7:=beq_eq_false_iff_ne.2 h7)
    go_enter Tryz.func200,Tryz.ntmps200
    go_wp2_with (first
     |(go_at_call 253;refine (checkTerm_c B _ fl ya yb ws ks sa ka sc kc W HQ.out HN.out.ws hGW).mono ?_;rintro e w1 ⟨rfl,hb1⟩;rw[<- Qr.nodeE_t (ks:=ks) oX,H0.out];have e5:=zlf)
     |(go_at_call 254;refine (checkYears_c B _ fl ya yb ws ks sa ka sc kc W HQ.out).mono ?_;rintro e w1 ⟨rfl,hb1⟩;rw[<- Qr.nodeE_y (ks:=ks),H0.out];have e5:=zlf)
     |(go_at_call 255;refine (checkKids_c B _ fl ya yb ws ks sa ka sc kc W HQ.out).mono ?_;rintro e w1 ⟨rfl,hb1⟩;rw[<- Qr.nodeE_k (ks:=ks) oX,H0.out];have e5:=zlf))
    clear hW c0 c1 c2 c3 c4 c5;go_loopw [3,27] (fun n i wr=>∃ (k:Nat) (e:Int),k<=ks.length/\i=.int .i64 k/\n=.int .i64 e/\Hid (Fq n0 (ks.take k)=e)/\Aa W.heap.size W wr) (fun _ i _=>ks.length - (Aj i).toNat)
    case atStart=>exact⟨0,n0,Am _,rfl,by first | rfl | (rw[<- H0.out,Qr.nodeE_f oQ]),J (by rw[BJ,Fq]),by first | exact hb1 | exact Ah _ _⟩
    case round =>
     obtain⟨k,n,hk,rfl,rfl,hn,hb⟩:=hrel;by_cases hlt:k<ks.length
     ·exact v0f
     ·have hkk:=zlw;subst hkk;have hend:=HEE.out _ _ hn.out;rw[Dd,Fq]at hend;have HB:=J hend;clear hend;go_wp2;go_ret;exact⟨AV HB.out.symm,hB.trans (hb.mono hB.size)⟩
  |have HA:Hid (ws≠[]->SLA W sa sc ws):=J fun hn=>(hA hn).below hB
   clear hA hK;by_cases g:ws.length<1\/(op≠3/\1<ws.length)
   ·have HE:=zgx;rcases g with g | ⟨g,g2⟩
    all_goals
     go_enter J9,Ig;go_wp2
     all_goals (go_ret;exact⟨AV HE.out.symm,hB⟩)
   ·have HW0:=zgy;obtain⟨t,ht⟩:∃ t,ws.all GJ=t:=⟨_,rfl⟩;have HT:=J ht;have g1:1<=ws.length:=oQ;have g2:op=3\/(op≠3/\¬ 1<ws.length):=oQ;cases t with
    | false =>
     have HE:=J (HW0.out ht);clear ht g;rcases g2 with rfl | ⟨g2,g6⟩
     all_goals
      exact udl
    | true =>
     by_cases g3:ya≠0\/yb≠0\/0<ks.length
     ·have HE:=zgx;clear g ht;rcases g2 with rfl | ⟨g2,g6⟩
      all_goals
       rcases (show ya≠0\/(ya=0/\yb≠0)\/(ya=0/\yb=0/\0<ks.length) by omega) with g4 | ⟨rfl,g4⟩ | ⟨rfl,rfl,g4⟩
      all_goals
       clear g3;exact udl
     ·have HR:=J (Qr.termE_r (o:=op) (f:=fl) (a:=ya) (b:=yb) (ws:=ws) (n:=ks.length) oQ ht);obtain rfl:ya=0:=oQ;obtain rfl:yb=0:=oQ;have g5:¬ 0<ks.length:=oQ;clear g ht g3;by_cases l1:8<ws.length
      ·have HE:=HR.out;rw[if_pos l1]at HE;replace HE:=J HE;rcases g2 with rfl | ⟨g2,g6⟩
       ·exact udl
       ·exfalso;omega
      ·have HE:=HR.out;rw[if_neg l1]at HE;rcases (show fl<0\/(¬ fl<0/\4<fl)\/(¬ fl<0/\¬ 4<fl) by omega) with l2 | ⟨l2,l3⟩ | ⟨l2,l3⟩
       ·rw[if_pos (.inl l2)]at HE;replace HE:=J HE;rcases g2 with rfl | ⟨g2,g6⟩
        all_goals
         exact udl
       ·rw[if_pos (.inr l3)]at HE;replace HE:=J HE;rcases g2 with rfl | ⟨g2,g6⟩
        all_goals
         exact udl
       ·rw[if_neg oQ]at HE;replace HE:=J HE;rcases g2 with rfl | ⟨g2,g6⟩
        all_goals
         exact udl
  |have HQ:=J (h.later hB);clear h
   obtain⟨n0,hn0⟩:=zje;rw[hn0];have H0:=J hn0;clear hn0;rcases (show op=1\/op=2\/op=3\/op=4\/op=5\/op=6\/op=7\/(op≠1/\op≠2/\op≠3/\op≠4/\op≠5/\op≠6/\op≠7) by omega) with rfl | rfl | rfl | rfl | rfl | rfl | rfl | ⟨h1,h2,h3,h4,h5,h6,h7⟩
   all_goals
    try (have b1:=beq_eq_false_iff_ne.2 h1;have b2:=beq_eq_false_iff_ne.2 h2;have b3:=beq_eq_false_iff_ne.2 h3;have b4:=beq_eq_false_iff_ne.2 h4;have b5:=beq_eq_false_iff_ne.2 h5;have b6:=beq_eq_false_iff_ne.2 h6;have b7:=beq_eq_false_iff_ne.2 h7)
    go_enter Tryz.func146,Tryz.ntmps146
    go_wp2_with (first
     |(go_at_call 214;refine (r21_term_c B _ fl ya yb ws ks sa ka sc kc W HQ.out HZ.out).mono ?_;rintro e w1 ⟨rfl,hb1⟩;rw[<- Qr.nodeE_t (ks:=ks) oX,H0.out])
     |(go_at_call 215;refine (r21_years_c B _ fl ya yb ws ks sa ka sc kc W HQ.out).mono ?_;rintro e w1 ⟨rfl,hb1⟩;rw[<- Qr.nodeE_y (ks:=ks),H0.out])
     |(go_at_call 216;refine (r21_operator_c B _ fl ya yb ws ks sa ka sc kc W HQ.out).mono ?_;rintro e w1 ⟨rfl,hb1⟩;rw[<- Qr.nodeE_k (ks:=ks) oX,H0.out]))
    go_ret
    first
     | exact⟨rfl,hB.trans (hb1.mono hB.size)⟩
     | exact⟨AV (by rw[<- H0.out,Qr.nodeE_f oQ]),hB⟩
  |have HQ:=J (h.later hB);clear h
   have HZ:=J hz;clear hz;exact vj3
  |have HQ:=J (h.later hB);clear h
   have HZ:=J hz;clear hz;have hGW:=hG.below hB;exact vj3
  |by_cases g:ws.length<1\/(op≠3/\1<ws.length)\/ya≠0\/yb≠0\/0<ks.length
   · have HE:=J (Qr.termE_3 (f:=fl) g)
     rcases g with g | ⟨g,g2⟩ | g | g | g
     · go_enter Kc,Jw
       go_wp2
       all_goals (go_ret;exact⟨AV HE.out.symm,hB⟩)
     · go_enter Kc,Jw
       go_wp2
       all_goals (go_ret;exact⟨AV HE.out.symm,hB⟩)
     · go_enter Kc,Jw
       go_wp2
       all_goals (go_ret;exact⟨AV HE.out.symm,hB⟩)
     · go_enter Kc,Jw
       go_wp2
       all_goals (go_ret;exact⟨AV HE.out.symm,hB⟩)
     · go_enter Kc,Jw
       go_wp2
       all_goals (go_ret;exact⟨AV HE.out.symm,hB⟩)
   · have HR:=J (Qr.termE_r (f:=fl) g)
     have HW0:=zgy;have g1:1<=ws.length:=oQ;have g3:ya=0:=oQ;have g4:yb=0:=oQ;have g5:ks.length=0:=oQ;have g2:op=3\/(op≠3/\¬ 1<ws.length):=oQ;clear g;rw[g5]at HR HW0 c5 hkmax hW ⊢;subst g3;subst g4;have hKl:=J hK;clear hK g5;rcases g2 with rfl | ⟨g2,g6⟩
     all_goals (
       go_enter Kc,Jw;go_wp2;clear hW c0 c3 c4 c5;go_loopw [39] (fun i wr=>∃ k:Nat,k<=ws.length/\i=.int .i64 k/\Hid ((ws.take k).all GJ=true)/\Aa W.heap.size W wr) (fun i _=>ws.length - (Aj i).toNat)
       case atStart=>exact⟨0,Am _,rfl,J eY,Ah _ _⟩
       case round =>
         obtain⟨k,hk,rfl,hall,hb⟩:=hrel;have e1:=A4 hb c1;have e2:=A4 hb c2;have hGr:G wr:=hG.below (hB.trans (hb.mono hB.size));by_cases hlt:k<ws.length
         · obtain⟨x,hx⟩:∃ x,ws[k]?=some x:=⟨_,Ai hlt⟩
           have hne:=zqr;obtain⟨b,o,rfl,hbl,d0⟩:=(((hA hne).below hB).below hb).get hx;have hxz:=zhc;have HX:=J hx;clear hx hne;by_cases hv:AE x.data.toList=true
           · obtain⟨t,ht⟩:∃ t,(Bl x.data.toList == [x.data.toList])=t:=⟨_,rfl⟩
             have HT:=J ht;clear ht;have HV:=J hv;clear hv;have hwl:=Tx.words_len HV.out;cases t with
             | true =>
               exact vy6
             | false =>
               exact vy6
           · have hv':AE x.data.toList=false:=by simpa using hv
             have HV:=J hv';clear hv hv';go_wp2_with (go_at_call 114;refine (text_Valid_c x _ oQ hGr).mono ?_;rintro e w1 ⟨rfl,hb1⟩;rw[HV.out]);go_ret;exact⟨AV (HW0.out (Qr.all_bad HX.out (by unfold GJ;rw[HV.out];rfl))).symm,hB.trans ((hb.trans (hb1.mono hb.size)).mono hB.size)⟩
         · have hkk:k=ws.length:=oQ
           subst hkk;have hal:=hall.out;rw[At]at hal;have HE:=J (HR.out hal);clear hall hal;by_cases l1:8<ws.length
           · first
               |(exfalso;omega)
               | (go_wp2
                  go_ret;exact⟨AV (by rw[HE.out,if_pos l1]),hB.trans (hb.mono hB.size)⟩)
           · by_cases l2:fl<0
             · go_wp2
               go_ret;exact⟨AV (by rw[HE.out,if_neg l1,if_pos (.inl l2)]),hB.trans (hb.mono hB.size)⟩
             · by_cases l3:4<fl
               · go_wp2
                 go_ret;exact⟨AV (by rw[HE.out,if_neg l1,if_pos (.inr l3)]),hB.trans (hb.mono hB.size)⟩
               · go_wp2
                 go_ret;exact⟨AV (by rw[HE.out,if_neg l1,if_neg oQ]),hB.trans (hb.mono hB.size)⟩)
  |by_cases g:fl≠0\/ya≠0\/yb≠0\/0<ws.length\/ks.length<2\/(op=7/\2<ks.length)
   ·have HE:=J (Qr.kidsE_3 g);clear hK;rcases (show fl≠0\/(fl=0/\ya≠0)\/(fl=0/\ya=0/\yb≠0)\/(fl=0/\ya=0/\yb=0/\0<ws.length)\/(fl=0/\ya=0/\yb=0/\¬ 0<ws.length/\ks.length<2)\/(fl=0/\ya=0/\yb=0/\¬ 0<ws.length/\¬ ks.length<2/\op=7/\2<ks.length) by omega) with g1 | ⟨rfl,g2⟩ | ⟨rfl,rfl,g3⟩ | ⟨rfl,rfl,rfl,g4⟩ | ⟨rfl,rfl,rfl,g4,g5⟩ | ⟨rfl,rfl,rfl,g4,g5,rfl,g6⟩
    all_goals
     clear g;go_enter Tryz.func216,Tryz.ntmps216;go_wp2;go_ret;exact⟨AV HE.out.symm,hB⟩
   ·have g1:fl=0:=oQ;have g2:ya=0:=oQ;have g3:yb=0:=oQ;have g4:=zqm;have g5:¬ ks.length<2:=oQ;by_cases g7:op=7
    ·have HE:=J (Qr.kidsE_7 g g7);have g8:¬ 2<ks.length:=oQ;clear g;subst g1;subst g2;subst g3;subst g7;have hS:=hK.below hB;clear hK;go_enter Tryz.func216,Tryz.ntmps216;go_wp2;clear hW c1 c2 c3 c4;go_loopw [4] (fun i wr=>∃ k:Nat,k<=ks.length/\i=.int .i64 k/\Hid (True)/\Aa W.heap.size W wr) (fun i _=>ks.length - (Aj i).toNat)
     case atStart=>exact⟨0,Am _,rfl,J (True.intro),Ah _ _⟩
     case round =>
      obtain⟨k,hk,rfl,hall,hb⟩:=hrel;have e0:=A4 hb c0;have e5:=zqu;by_cases hlt:k<ks.length
      ·exact v0f
      ·have hkk:=zlw;subst hkk;have l1:¬ 8<ks.length:=oQ;go_wp2;go_ret;exact⟨AV HE.out.symm,hB.trans (hb.mono hB.size)⟩
    ·have HE:=J (Qr.kidsE_r g g7);have g7b:(op != 7)=true:=by simpa using g7
     have g7c:(op == 7)=false:=by simpa using g7
     clear g;subst g1;subst g2;subst g3;have hS:=hK.below hB;clear hK;go_enter Tryz.func216,Tryz.ntmps216;go_wp2;clear hW c1 c2 c3 c4;go_loopw [4] (fun i wr=>∃ k:Nat,k<=ks.length/\i=.int .i64 k/\Hid ((ks.take k).any (fun k=>decide (k.op=op))=false)/\Aa W.heap.size W wr) (fun i _=>ks.length - (Aj i).toNat)
     case atStart=>exact⟨0,Am _,rfl,J eY,Ah _ _⟩
     case round =>
      obtain⟨k,hk,rfl,hall,hb⟩:=hrel;have e0:=A4 hb c0;have e5:=zqu;by_cases hlt:k<ks.length
      ·exact v0f
      ·exact yil
  |by_cases g:fl≠0\/ya≠0\/yb≠0\/0<ws.length\/ks.length<2\/(op=7/\2<ks.length)
   ·have HE:=J (Qr.kidsE_3 g);clear hK;rcases (show fl≠0\/(fl=0/\ya≠0)\/(fl=0/\ya=0/\yb≠0)\/(fl=0/\ya=0/\yb=0/\0<ws.length)\/(fl=0/\ya=0/\yb=0/\¬ 0<ws.length/\ks.length<2)\/(fl=0/\ya=0/\yb=0/\¬ 0<ws.length/\¬ ks.length<2/\op=7/\2<ks.length) by omega) with g1 | ⟨rfl,g2⟩ | ⟨rfl,rfl,g3⟩ | ⟨rfl,rfl,rfl,g4⟩ | ⟨rfl,rfl,rfl,g4,g5⟩ | ⟨rfl,rfl,rfl,g4,g5,rfl,g6⟩
    all_goals
     clear g;go_enter Tryz.func255,Tryz.ntmps255;go_wp2;go_ret;exact⟨AV HE.out.symm,hB⟩
   ·have g1:fl=0:=oQ;have g2:ya=0:=oQ;have g3:yb=0:=oQ;have g4:=zqm;have g5:¬ ks.length<2:=oQ;by_cases g7:op=7
    ·have HE:=J (Qr.kidsE_7 g g7);have g8:¬ 2<ks.length:=oQ;clear g hK;subst g1;subst g2;subst g3;subst g7;go_enter Tryz.func255,Tryz.ntmps255;go_wp2;go_ret;exact⟨AV HE.out.symm,hB⟩
    ·have HE:=J (Qr.kidsE_r g g7);clear g;subst g1;subst g2;subst g3;have hS:=hK.below hB;clear hK;go_enter Tryz.func255,Tryz.ntmps255;go_wp2;clear hW c1 c2 c3 c4;go_loopw [47] (fun i wr=>∃ k:Nat,k<=ks.length/\i=.int .i64 k/\Hid ((ks.take k).any (fun k=>decide (k.op=op))=false)/\Aa W.heap.size W wr) (fun i _=>ks.length - (Aj i).toNat)
     case atStart=>exact⟨0,Am _,rfl,J eY,Ah _ _⟩
     case round =>
      obtain⟨k,hk,rfl,hall,hb⟩:=hrel;have e0:=A4 hb c0;have e5:=zqu;by_cases hlt:k<ks.length
      ·exact v0f
      ·exact yil
  |by_cases g:fl≠0\/0<ws.length\/0<ks.length
   ·have HE:=J (Qr.yearsE_3 (a:=ya) (b:=yb) g);rcases (show fl≠0\/(fl=0/\0<ws.length)\/(fl=0/\¬ 0<ws.length/\0<ks.length) by omega) with g1 | ⟨rfl,g2⟩ | ⟨rfl,g2,g3⟩
    all_goals
     clear g;go_enter Tryz.func254,Tryz.ntmps254;go_wp2;go_ret;exact⟨AV HE.out.symm,hB⟩
   ·have g1:fl=0:=oQ;have g2:=zqm;have g3:¬ 0<ks.length:=oQ;by_cases g':ya<1\/yb<ya\/2199<yb
    ·have HE:=J (Qr.yearsE_2 g g');clear g;subst g1;rcases (show ya<1\/(¬ ya<1/\yb<ya)\/(¬ ya<1/\¬ yb<ya/\2199<yb) by omega) with g1 | ⟨g1,g4⟩ | ⟨g1,g4,g5⟩
     all_goals
      exact yx5
    ·have HE:=J (Qr.yearsE_0 g g');clear g;subst g1;have y1:¬ ya<1:=oQ;have y2:¬ yb<ya:=oQ;have y3:¬ 2199<yb:=oQ;exact yx5
  |by_cases g:fl≠0\/0<ws.length\/0<ks.length
   ·have HE:=J (Qr.yearsE_3 (a:=ya) (b:=yb) g);rcases (show fl≠0\/(fl=0/\0<ws.length)\/(fl=0/\¬ 0<ws.length/\0<ks.length) by omega) with g1 | ⟨rfl,g2⟩ | ⟨rfl,g2,g3⟩
    all_goals
     clear g;go_enter Tryz.func215,Tryz.ntmps215;go_wp2;go_ret;exact⟨AV HE.out.symm,hB⟩
   ·have g1:fl=0:=oQ;have g2:=zqm;have g3:¬ 0<ks.length:=oQ;by_cases g':ya<1\/yb<ya\/2199<yb
    ·have HE:=J (Qr.yearsE_2 g g');clear g;subst g1;rcases (show ya<1\/(¬ ya<1/\yb<ya)\/(¬ ya<1/\¬ yb<ya/\2199<yb) by omega) with g1 | ⟨g1,g4⟩ | ⟨g1,g4,g5⟩
     all_goals
      exact yzp
    ·have HE:=J (Qr.yearsE_0 g g');clear g;subst g1;have y1:¬ ya<1:=oQ;have y2:¬ yb<ya:=oQ;have y3:¬ 2199<yb:=oQ;exact yzp):P:=h
theorem checkTerm_c (B:Nat) (op fl ya yb:Int) (ws:List ByteArray) (ks:List Cq) (sa ka:Option Aq) (sc kc:Nat) (w:Ab) (h:D6 B w (.mk op fl ws ya yb ks) [.int .i64 op,.int .i64 fl,.slice sa ws.length sc,.int .i64 ya,.int .i64 yb,.slice ka ks.length kc])
    (hz:∀ x∈ws,x.size<=1000000) (hG:G w) :
    Af A8 253 #[.agg #[.int .i64 op,.int .i64 fl,.slice sa ws.length sc,.int .i64 ya,.int .i64 yb,.slice ka ks.length kc]] w fun e w'=>e=.returned (.int .i64 (Qr.termE op fl ws ya yb ks.length))/\Aa w.heap.size w w':=by
  obtain⟨_,hA,_,hK⟩:=h.sla;have HZ:=J hz;clear hz;have hkmax:=hK.max;have hmx:Ap=9223372036854775807:=rfl
  have hwmax:ws.length<=9223372036854775807:=by
    by_cases hne:ws=[]
    · rw[hne];decide
    · have:=(hA hne).cap;have:=(hA hne).max;omega
  clear h;exact vmq
namespace Qr
theorem yearsE_3 {f a b:Int}{ws:List ByteArray}{n:Nat} (h:f≠0\/0<ws.length\/0<n):yearsE f ws a b n=3:=by unfold yearsE;rw[if_pos h]
theorem yearsE_2 {f a b:Int}{ws:List ByteArray}{n:Nat} (h:¬ (f≠0\/0<ws.length\/0<n)) (h2:a<1\/b<a\/2199<b):yearsE f ws a b n=2:=by unfold yearsE;rw[if_neg h,if_pos h2]
theorem yearsE_0 {f a b:Int}{ws:List ByteArray}{n:Nat} (h:¬ (f≠0\/0<ws.length\/0<n)) (h2:¬ (a<1\/b<a\/2199<b)):yearsE f ws a b n=0:=by unfold yearsE;rw[if_neg h,if_neg h2]
theorem kidsE_3 {o f a b:Int}{ws:List ByteArray}{ks:List Qy} (h:f≠0\/a≠0\/b≠0\/0<ws.length\/ks.length<2\/(o=7/\2<ks.length)):kidsE o f ws a b ks=3:=by unfold kidsE;rw[if_pos h]
theorem kidsE_7 {o f a b:Int}{ws:List ByteArray}{ks:List Qy} (h:¬ (f≠0\/a≠0\/b≠0\/0<ws.length\/ks.length<2\/(o=7/\2<ks.length))) (h7:o=7):kidsE o f ws a b ks=0:=by unfold kidsE;rw[if_neg h,if_pos h7]
theorem kidsE_r {o f a b:Int}{ws:List ByteArray}{ks:List Qy} (h:¬ (f≠0\/a≠0\/b≠0\/0<ws.length\/ks.length<2\/(o=7/\2<ks.length))) (h7:o≠7):kidsE o f ws a b ks=if ks.any (fun k=>decide (k.op=o))=true then 3 else if 8<ks.length then 4 else 0:=by unfold kidsE;rw[if_neg h,if_neg h7]
theorem any_take {α:Type}{p:α->Bool}{l:List α}{k:Nat}{x:α} (h:l[k]?=some x) (ha:(l.take k).any p=false) (hx:p x=false):(l.take (k+1)).any p=false:=by
 rw[take_snoc h,List.any_append,ha];simp[hx]
theorem any_hit {α:Type}{p:α->Bool}{l:List α}{k:Nat}{x:α} (h:l[k]?=some x) (hx:p x=true):l.any p=true:=List.any_eq_true.2 ⟨x,AJ h,hx⟩
end Qr
theorem yx5 (h:P:=by
 clear g';go_enter Tryz.func254,Tryz.ntmps254;go_wp2;go_ret;exact⟨AV HE.out.symm,hB⟩):P:=h
theorem ylp (h:P:=by
 by_cases hne:ws=[]
 ·rw[hne];decide
 ·have:=(hA hne).cap;have:=(hA hne).max;omega):P:=h
theorem v01 (h:P:=by
 obtain⟨_,hA,_,hK⟩:=h.sla;have hkmax:=hK.max;have hmx:Ap=9223372036854775807:=rfl
 have hwmax:ws.length<=9223372036854775807:=by
  exact ylp
 first
  |clear h hA hK
   exact vmq
  |clear h hA
   exact vmq):P:=h
theorem checkYears_c (B:Nat) (op fl ya yb:Int) (ws:List ByteArray) (ks:List Cq) (sa ka:Option Aq) (sc kc:Nat) (w:Ab) (h:D6 B w (.mk op fl ws ya yb ks) [.int .i64 op,.int .i64 fl,.slice sa ws.length sc,.int .i64 ya,.int .i64 yb,.slice ka ks.length kc]) :
  Af A8 254 #[.agg #[.int .i64 op,.int .i64 fl,.slice sa ws.length sc,.int .i64 ya,.int .i64 yb,.slice ka ks.length kc]] w fun e w'=>e=.returned (.int .i64 (Qr.yearsE fl ws ya yb ks.length))/\Aa w.heap.size w w':=by
 exact v01
theorem yil (h:P:=by
 have hkk:=zlw;subst hkk;have hal:=hall.out;rw[At]at hal;have HA:=J hal;clear hall hal;by_cases l1:8<ks.length
 ·go_wp2;go_ret;exact⟨AV (by rw[HE.out,HA.out,if_neg oZ,if_pos l1]),hB.trans (hb.mono hB.size)⟩
 ·go_wp2;go_ret;exact⟨AV (by rw[HE.out,HA.out,if_neg oZ,if_neg l1]),hB.trans (hb.mono hB.size)⟩):P:=h
theorem checkKids_c (B:Nat) (op fl ya yb:Int) (ws:List ByteArray) (ks:List Cq) (sa ka:Option Aq) (sc kc:Nat) (w:Ab) (h:D6 B w (.mk op fl ws ya yb ks) [.int .i64 op,.int .i64 fl,.slice sa ws.length sc,.int .i64 ya,.int .i64 yb,.slice ka ks.length kc]) :
  Af A8 255 #[.agg #[.int .i64 op,.int .i64 fl,.slice sa ws.length sc,.int .i64 ya,.int .i64 yb,.slice ka ks.length kc]] w fun e w'=>e=.returned (.int .i64 (Qr.kidsE op fl ws ya yb ks))/\Aa w.heap.size w w':=by
 exact v01
namespace Qr
inductive Wz (M:Nat):Qy->Prop
 | mk {op f a b:Int}{ws:List ByteArray}{ks:List Qy} (h1:∀ x∈ws,x.size<=M) (h2:∀ k∈ks,Wz M k):Wz M (.mk op f ws a b ks)
theorem Wz.ws {M:Nat}{op f a b:Int}{ws:List ByteArray}{ks:List Qy} (h:Wz M (.mk op f ws a b ks)):∀ x∈ws,x.size<=M:=by cases h;assumption
theorem Wz.ks {M:Nat}{op f a b:Int}{ws:List ByteArray}{ks:List Qy} (h:Wz M (.mk op f ws a b ks)):∀ k∈ks,Wz M k:=by cases h;assumption
theorem nodeE_t {o f a b:Int}{ws:List ByteArray}{ks:List Qy} (h:o=1\/o=2\/o=3):nodeE (.mk o f ws a b ks)=termE o f ws a b ks.length:=by simp only[nodeE];rw[if_pos h]
theorem nodeE_y {f a b:Int}{ws:List ByteArray}{ks:List Qy}:nodeE (.mk 4 f ws a b ks)=yearsE f ws a b ks.length:=by simp[nodeE]
theorem nodeE_k {o f a b:Int}{ws:List ByteArray}{ks:List Qy} (h:o=5\/o=6\/o=7):nodeE (.mk o f ws a b ks)=kidsE o f ws a b ks:=by simp only[nodeE];rw[if_neg oQ,if_neg oQ,if_pos h]
theorem nodeE_f {o f a b:Int}{ws:List ByteArray}{ks:List Qy} (h:¬ (o=1\/o=2\/o=3\/o=4\/o=5\/o=6\/o=7)):nodeE (.mk o f ws a b ks)=3:=by simp only[nodeE];rw[if_neg oQ,if_neg oQ,if_neg oQ]
end Qr
theorem check_c (B:Nat):∀ (q:Cq) (cs:List Ak) (w:Ab),D6 B w q cs->Qr.Wz 1000000 q->G w ->
  Af A8 200 #[.agg cs.toArray] w fun e w'=>e=.returned (.int .i64 (Jj q))/\Aa w.heap.size w w':=by
 refine Qr.Qy.ind ?_;intro op fl ws ya yb ks ih cs w h hn hG;obtain⟨sa,sc,ka,kc,rfl,_,_,hK⟩:=h.kids;dsimp only[Qr.Qy.op,Qr.Qy.fld,Qr.Qy.a,Qr.Qy.b,Qr.Qy.ks,Qr.Qy.ws]at hK h ⊢;have IH:=J ih;clear ih;exact vmq
theorem y0e (h:P:=by
 exact⟨AV (by rw[HR.out,if_neg oQ]),hB.trans (((hb1.trans (hb2.mono hb1.size)).trans (hb3.mono (Au hb1.size hb2.size))).mono hB.size)⟩):P:=h
theorem uv3 (h:P:=by
 go_enter Tryz.func118,Tryz.ntmps118
 go_wp2_with (first
  |(go_at_call 198;refine (nodes_c B q _ W HQ.out eG).mono ?_;rintro e w1 ⟨rfl,hb1⟩;rw[HNN.out];have e0:=zig;have e1:=zif;have e2:=znl;have e3:=A4 hb1 c3;have e4:=znm;have e5:=zlf)
  |(go_at_call 199;refine (Depth_c B q _ _ (HQ.out.later hb1) eG).mono ?_;rintro e w2 ⟨rfl,hb2⟩;rw[HDD.out];have f0:=A4 hb2 e0;have f1:=A4 hb2 e1;have f2:=A4 hb2 e2;have f3:=A4 hb2 e3;have f4:=A4 hb2 e4;have f5:=A4 hb2 e5)
  |(go_at_call 200;refine (check_c B q _ _ ((HQ.out.later hb1).later hb2) HZ.out ((hGW.below hb1).below hb2)).mono ?_;rintro e w3 ⟨rfl,hb3⟩)
  |(go_at_call 199;refine (Depth_c B q _ _ (HQ.out.later hb1) eG).mono ?_;rintro e w2 ⟨rfl,hb2⟩;rw[HDD.out])
  |(go_at_call 198;refine (nodes_c B q _ W HQ.out eG).mono ?_;rintro e w1 ⟨rfl,hb1⟩;rw[HNN.out]))
 first
  |go_ret
   exact y0e
  |go_ret
   exact⟨AV (by rw[HR.out,if_pos (.inr g2)]),hB.trans ((hb1.trans (hb2.mono hb1.size)).mono hB.size)⟩
  |go_ret
   exact⟨AV (by rw[HR.out,if_pos (.inl g1)]),hB.trans (hb1.mono hB.size)⟩):P:=h
theorem Right_c (B:Nat) (q:Cq) (cs:List Ak) (w:Ab) (h:D6 B w q cs) (hz:Qr.Wz 1000000 q) (hn:Eb q<=1000000000) (hG:G w) :
  Af A8 118 #[.agg cs.toArray] w fun e w'=>e=.returned (.int .i64 (GH q))/\Aa w.heap.size w w':=by
 obtain⟨sa,sc,ka,kc,e0,_,_,_⟩:=h.kids;have hdn:=Qr.depth_nodes q;obtain⟨op,hop⟩:∃ op,q.op=op:=⟨_,rfl⟩;obtain⟨fl,hfl⟩:∃ fl,q.fld=fl:=⟨_,rfl⟩;obtain⟨ya,hya⟩:∃ ya,q.a=ya:=⟨_,rfl⟩;obtain⟨yb,hyb⟩:∃ yb,q.b=yb:=⟨_,rfl⟩;obtain⟨ws,hws⟩:∃ ws,q.ws=ws:=⟨_,rfl⟩;obtain⟨ks,hks⟩:∃ ks,q.ks=ks:=⟨_,rfl⟩;rw[hop,hfl,hya,hyb,hws,hks]at e0;clear hop hfl hya hyb hws hks;subst e0;exact vmq
theorem Qr.own_words {w:Ab}{B:Nat}{v:Ak}{l:List UInt8} (h:w.ownsRow B 9 1 v (Bl l).length ((Bl l).map Tx.sv)) :
  ∃ a c,v=.slice a (Bp l).length c/\SLA w a c (Bp l) :=
 SLA.of_own h (by unfold Bp;rw[DF];rfl)
theorem Qr.wordsB_len (l:List UInt8):(Bp l).length=(Bl l).length:=by unfold Bp;rw[Ax]
theorem Qr.wordsB_map (l:List UInt8):(Bp l).map (·.data.toList)=Bl l:=by
 unfold Bp;rw[DF]
 conv=>rhs;rw[<- List.map_id (Bl l)]
 rfl
theorem yln (h:P:=by
 go_wp2_with (first
  |(go_at_call 122;refine (r01_Valid_c s _ oQ).mono ?_;rintro e w1 ⟨rfl,hb1⟩;rw[HT.out])
  |(go_at_call 212;refine (r01_Words_c s _ oQ).mono ?_;rintro e w2 ⟨v,rfl,hown,hb2⟩;obtain⟨a,c,rfl,hA⟩:=Qr.own_words hown;clear hown;rw[HX.out]))
 go_ret;exact⟨AX (by rw[HI.out];simp),hb1.trans (hb2.mono hb1.size)⟩):P:=h
theorem r21_word_c (s:ByteArray) (w:Ab) (hs:s.size<=1000000) :
  Af A8 294 #[.string s] w fun e w'=>e=.returned (.bool (GJ s))/\Aa w.heap.size w w':=by
 obtain⟨t,ht⟩:∃ t,AE s.data.toList=t:=⟨_,rfl⟩;have HT:=J ht;clear ht;cases t with
 | false =>
  go_enter Tryz.func294,Tryz.ntmps294;go_wp2_with (go_at_call 122;refine (r01_Valid_c s _ oQ).mono ?_;rintro e w1 ⟨rfl,hb1⟩;rw[HT.out]);go_ret;exact⟨AX (by unfold GJ;rw[HT.out];rfl),hb1⟩
 | true =>
  have hm:=Qr.words_one (xs:=Bp s.data.toList) (s:=s) (Qr.wordsB_map _);obtain⟨xs,hxs⟩:∃ xs,Bp s.data.toList=xs:=⟨_,rfl⟩
  have hl:xs.length<=1000000000:=by
   rw[<- hxs,Qr.wordsB_len];have:=Tx.words_len HT.out;rw[<- Lib.size_eq]at this;omega
  rw[hxs]at hm;have HX:=J hxs;clear hxs;have hI:GJ s=decide (xs=[s]):=by unfold GJ;rw[HT.out,hm];rfl
  have HI:=J hI;clear hI hm;rcases xs with _ | ⟨x,_ | ⟨y,r⟩⟩
  ·go_enter Tryz.func294,Tryz.ntmps294;exact yln
  ·obtain⟨t2,ht2⟩:=znb;go_enter Tryz.func294,Tryz.ntmps294
   go_wp2_with (first
    |(go_at_call 122;refine (r01_Valid_c s _ oQ).mono ?_;rintro e w1 ⟨rfl,hb1⟩;rw[HT.out])
    |(go_at_call 212;refine (r01_Words_c s _ oQ).mono ?_;rintro e w2 ⟨v,rfl,hown,hb2⟩;obtain⟨a,c,rfl,hA⟩:=Qr.own_words hown;clear hown;rw[HX.out]at hA ⊢;obtain⟨b,o,rfl,hbl,hc⟩:=hA.get (k:=0) rfl;rw[Nat.add_zero]at hc;clear hA))
   go_ret;exact⟨AX (by rw[HI.out,<- ht2,Bx,beq_iff_eq,decide_eq_true_iff,List.cons.injEq];simp[AG,ByteArray.ext_iff,<- Array.toList_inj]),hb1.trans (hb2.mono hb1.size)⟩
  ·go_enter Tryz.func294,Tryz.ntmps294;have hlen:¬ (((x::y::r).length:Int)=1):=by simp only[List.length_cons];omega
   exact yln
theorem r21_words_c (ws:List ByteArray) (sa:Option Aq) (sc:Nat) (w:Ab) (hA:ws≠[]->SLA w sa sc ws) (hz:∀ x∈ws,x.size<=1000000) (hn:ws.length<=9223372036854775807) :
  Af A8 271 #[.slice sa ws.length sc] w fun e w'=>e=.returned (.bool (ws.all GJ))/\Aa w.heap.size w w':=by
 have HZ:=J hz;clear hz;go_enter Tryz.func271,Tryz.ntmps271;go_wp2;go_loopw [3] (fun i wr=>∃ k:Nat,k<=ws.length/\i=.int .i64 k/\Hid ((ws.take k).all GJ=true)/\Aa w.heap.size w wr) (fun i _=>ws.length - (Aj i).toNat)
 case atStart=>exact⟨0,Am _,rfl,J eY,Ah _ _⟩
 case round =>
  obtain⟨k,hk,rfl,hall,hb⟩:=hrel;by_cases hlt:k<ws.length
  ·obtain⟨x,hx⟩:∃ x,ws[k]?=some x:=⟨_,Ai hlt⟩;have hne:=zqr;obtain⟨b,o,rfl,hbl,d0⟩:=((hA hne).below hb).get hx;have hxz:=zhc;have HX:=J hx;clear hx hne;obtain⟨t,ht⟩:∃ t,GJ x=t:=⟨_,rfl⟩;have HT:=J ht;clear ht;cases t with
   | true =>
    go_wp2_with (go_at_call 294;refine (r21_word_c x _ hxz).mono ?_;rintro e w1 ⟨rfl,hb1⟩;rw[HT.out]);go_roundw
    case rel=>exact⟨k+1,hlt,by go_num,J (Qr.all_take HX.out hall.out HT.out),hb.trans (hb1.mono hb.size)⟩
    case measure=>simp[Aj];omega
   | false =>
    go_wp2_with (go_at_call 294;refine (r21_word_c x _ hxz).mono ?_;rintro e w1 ⟨rfl,hb1⟩;rw[HT.out]);go_ret;exact⟨AX (Qr.all_bad HX.out HT.out).symm,hb.trans (hb1.mono hb.size)⟩
  ·have hkk:k=ws.length:=oQ;subst hkk;go_wp2;go_ret;exact⟨AX (by have:=hall.out;rw[At]at this;exact this.symm),hb⟩
theorem udl (h:P:=by
 go_enter J9,Ig
 go_wp2_with (first
  |(go_at_call 271;refine (r21_words_c ws sa sc _ HA.out HZ.out hwmax).mono ?_;rintro e w1 ⟨rfl,hb1⟩;rw[HT.out];have e1:=zif;have e3:=A4 hb1 c3;have e4:=znm;have e5:=zlf)
  |(go_at_call 271;refine (r21_words_c ws sa sc _ HA.out HZ.out hwmax).mono ?_;rintro e w1 ⟨rfl,hb1⟩;rw[HT.out]))
 go_ret;exact⟨AV HE.out.symm,hB.trans (hb1.mono hB.size)⟩):P:=h
theorem r21_term_c (B:Nat) (op fl ya yb:Int) (ws:List ByteArray) (ks:List Cq) (sa ka:Option Aq) (sc kc:Nat) (w:Ab) (h:D6 B w (.mk op fl ws ya yb ks) [.int .i64 op,.int .i64 fl,.slice sa ws.length sc,.int .i64 ya,.int .i64 yb,.slice ka ks.length kc])
  (hz:∀ x∈ws,x.size<=1000000) :
  Af A8 214 #[.agg #[.int .i64 op,.int .i64 fl,.slice sa ws.length sc,.int .i64 ya,.int .i64 yb,.slice ka ks.length kc]] w fun e w'=>e=.returned (.int .i64 (Qr.termE op fl ws ya yb ks.length))/\Aa w.heap.size w w':=by
 obtain⟨_,hA,_,hK⟩:=h.sla;have HZ:=J hz;clear hz;have hkmax:=hK.max;have hmx:Ap=9223372036854775807:=rfl
 have hwmax:ws.length<=9223372036854775807:=by
  exact ylp
 clear h;exact vmq
theorem yzp (h:P:=by
 clear g';go_enter Tryz.func215,Tryz.ntmps215;go_wp2;go_ret;exact⟨AV HE.out.symm,hB⟩):P:=h
theorem r21_years_c (B:Nat) (op fl ya yb:Int) (ws:List ByteArray) (ks:List Cq) (sa ka:Option Aq) (sc kc:Nat) (w:Ab) (h:D6 B w (.mk op fl ws ya yb ks) [.int .i64 op,.int .i64 fl,.slice sa ws.length sc,.int .i64 ya,.int .i64 yb,.slice ka ks.length kc]) :
  Af A8 215 #[.agg #[.int .i64 op,.int .i64 fl,.slice sa ws.length sc,.int .i64 ya,.int .i64 yb,.slice ka ks.length kc]] w fun e w'=>e=.returned (.int .i64 (Qr.yearsE fl ws ya yb ks.length))/\Aa w.heap.size w w':=by
 exact v01
theorem r21_operator_c (B:Nat) (op fl ya yb:Int) (ws:List ByteArray) (ks:List Cq) (sa ka:Option Aq) (sc kc:Nat) (w:Ab) (h:D6 B w (.mk op fl ws ya yb ks) [.int .i64 op,.int .i64 fl,.slice sa ws.length sc,.int .i64 ya,.int .i64 yb,.slice ka ks.length kc]) :
  Af A8 216 #[.agg #[.int .i64 op,.int .i64 fl,.slice sa ws.length sc,.int .i64 ya,.int .i64 yb,.slice ka ks.length kc]] w fun e w'=>e=.returned (.int .i64 (Qr.kidsE op fl ws ya yb ks))/\Aa w.heap.size w w':=by
 exact v01
theorem r21_node_c (B:Nat) (op fl ya yb:Int) (ws:List ByteArray) (ks:List Cq) (sa ka:Option Aq) (sc kc:Nat) (w:Ab) (h:D6 B w (.mk op fl ws ya yb ks) [.int .i64 op,.int .i64 fl,.slice sa ws.length sc,.int .i64 ya,.int .i64 yb,.slice ka ks.length kc])
  (hz:∀ x∈ws,x.size<=1000000) :
  Af A8 146 #[.agg #[.int .i64 op,.int .i64 fl,.slice sa ws.length sc,.int .i64 ya,.int .i64 yb,.slice ka ks.length kc]] w fun e w'=>e=.returned (.int .i64 (Qr.nodeE (.mk op fl ws ya yb ks)))/\Aa w.heap.size w w':=by
 have HZ:=J hz;clear hz;exact vmq
theorem r21_tree_c (B:Nat):∀ (q:Cq) (cs:List Ak) (w:Ab),D6 B w q cs->Qr.Wz 1000000 q ->
  Af A8 78 #[.agg cs.toArray] w fun e w'=>e=.returned (.int .i64 (Jj q))/\Aa w.heap.size w w':=by
 refine Qr.Qy.ind ?_;intro op fl ws ya yb ks ih cs w h hn;obtain⟨sa,sc,ka,kc,rfl,_,_,hK⟩:=h.kids;dsimp only[Qr.Qy.op,Qr.Qy.fld,Qr.Qy.a,Qr.Qy.b,Qr.Qy.ks,Qr.Qy.ws]at hK h ⊢;have IH:=J ih;clear ih;exact vmq
namespace Qr
theorem QC.eta {B:Nat}{w:Ab}{q:Qy}{cs:List Ak} (h:QC B w q cs):∃ op fl ya yb ws ks sa sc ka kc,q=.mk op fl ws ya yb ks/\cs=[.int .i64 op,.int .i64 fl,.slice sa ws.length sc,.int .i64 ya,.int .i64 yb,.slice ka ks.length kc]:=by
 cases h with
 | mk _ _ _ _ _ _=>exact⟨_,_,_,_,_,_,_,_,_,_,rfl,rfl⟩
end Qr
theorem up7 (h:P:=by
 go_enter Tryz.func32,Tryz.ntmps32
 go_wp2_with (first
  |(go_at_call 75;refine (r21_Nodes_c B q _ 64 W HQ.out oQ).mono ?_;rintro e w1 ⟨rfl,hb1⟩;rw[HNN.out,GM.out];have e0:=zig;have e1:=zif;have e2:=znl;have e3:=A4 hb1 c3;have e4:=znm;have e5:=zlf)
  |(go_at_call 77;refine (r21_Depth_c B q _ _ (HQ.out.later hb1) eG).mono ?_;rintro e w2 ⟨rfl,hb2⟩;rw[HDD.out];have f0:=A4 hb2 e0;have f1:=A4 hb2 e1;have f2:=A4 hb2 e2;have f3:=A4 hb2 e3;have f4:=A4 hb2 e4;have f5:=A4 hb2 e5)
  |(go_at_call 78;refine (r21_tree_c B q _ _ ((HQ.out.later hb1).later hb2) HZ.out).mono ?_;rintro e w3 ⟨rfl,hb3⟩)
  |(go_at_call 77;refine (r21_Depth_c B q _ _ (HQ.out.later hb1) eG).mono ?_;rintro e w2 ⟨rfl,hb2⟩;rw[HDD.out])
  |(go_at_call 75;refine (r21_Nodes_c B q _ 64 W HQ.out oQ).mono ?_;rintro e w1 ⟨rfl,hb1⟩;rw[HNN.out,GM.out]))
 first
  |go_ret
   exact y0e
  |go_ret
   exact⟨AV (by rw[HR.out,if_pos (.inr g2)]),hB.trans ((hb1.trans (hb2.mono hb1.size)).mono hB.size)⟩
  |go_ret
   exact⟨AV (by rw[HR.out,if_pos (.inl g1)]),hB.trans (hb1.mono hB.size)⟩):P:=h
theorem r21_Right_c (B:Nat) (q:Cq) (cs:List Ak) (w:Ab) (h:D6 B w q cs) (hz:Qr.Wz 1000000 q) (hn:Eb q<=1000000000) :
  Af A8 32 #[.agg cs.toArray] w fun e w'=>e=.returned (.int .i64 (GH q))/\Aa w.heap.size w w':=by
 obtain⟨op,fl,ya,yb,ws,ks,sa,sc,ka,kc,hq,rfl⟩:=h.eta;have hdn:=Qr.depth_nodes q;clear hq;exact vmq
namespace Qr
theorem bne_ba {x y:ByteArray}:(x.toList == y.toList)=decide (x=y):=by
 rw[Bx,beq_iff_eq,decide_eq_true_iff];simp[AG,ByteArray.ext_iff,<- Array.toList_inj]
end Qr
end Go.Proofs.YtlakomilichhnaaGreatDoor
