/- Parts. -/
import Derived.Test.YtlakomilichhnaaGreatDoorROi
namespace Go.Proofs.YtlakomilichhnaaGreatDoor
set_option maxHeartbeats 12800000
set_option maxRecDepth 100000
open Go.RowKit
open Br renaming flat_one->JA
open Go renaming cell_later->A4,maxLen->Ap
open Lib renaming hid->J
open List renaming getElem?_eq_getElem->Ai,getElem?_map->AP,length_map->Ax,length_take->Az,take_length->At
open Nat renaming add_zero->BN,le_refl->Ad,lt_of_lt_of_le->AN,min_eq_left->H4,zero_le->Am
open Option renaming map_eq_some_iff->D9,none->A0,some->A3
open Proofs.Tryz renaming underlying25->Bn
open Rc renaming encR->Bs,encR_len->Fz,r_one->H5
open RowKit renaming Below->Aa
open RowKit.Below renaming refl->Ah,trans->Ef
open Sq renaming step_append_z->BM
open Sr renaming order->JR,vals->Gu
open Tx renaming below_drewN->DP,step->Ac
variable {P:Prop}
namespace Sr
theorem own_cast {w:World}{B e size n n':Nat}{v:Value}{xs ys:List Value} (h:Sq.OwnZ w B e size v n xs) (hn:n=n') (hx:xs=ys):Sq.OwnZ w B e size v n' ys:=by rw[<- hn,<- hx];exact h
end Sr
theorem yeh (h:P:=by
 go_region_law (first
  |(refine BM _ oV _ _ 25 oV V7.heap.size 51 i0 _ 5 64 Bn HI1.out hz0 hz1 hz2 oV oX _ (0+L.length+1) _ oV own2 _ 0 _ [] oV oV (fun j u h9=>by simp at h9) (fun u h9=>by simp at h9) HM3.out HM4.out hb2.size ?_;intro v3 w3 own3 hg3 hz3';have hb3:=hb2.trans hz3')
  |(refine BM _ oV _ _ 25 oV V7.heap.size 51 i0 _ 5 64 Bn HI1.out hz0 hz1 hz2 oV oX _ (0+L.length) _ oV zsg _ 1 _ (Bs (x,fa,fc)) oV oV YK (H5 _) HM3.out HM4.out QV ?_;intro v2 w2 own2 hg2 hz2';have hb2:Aa V7.heap.size _ w2:=Ef zrx hz2')
  |(refine BM _ oV _ _ 25 oV V7.heap.size 51 i0 _ 5 64 Bn HI1.out hz0 hz1 hz2 oV oX _ 0 [] oV (Sq.OwnZ.lit _ _ _ _ _) _ L.length _ ((L.take L.length).flatMap Bs) oV HLT.out (FT.out _ uK) FO.out HM1.out HM2.out aZ ?_;intro v1 w1 own1 hg1 hz1';have hb1:Aa V7.heap.size _ w1:=Ef uK hz1';(first | have hel:=Sq.el1 hg1 | have hel:=Sq.el2 hg1 | skip);have z0:=A4 hb1 u0;have z1:=A4 hb1 u1;have z2:=A4 hb1 u2;have z3:=A4 hb1 u3;have z4:=A4 hb1 u4))
 all_goals
  have ho8:=J (Sr.own_cast own3 HNE2.out HVE2.out);have hb8:=hb3;clear own1 own2 own3 hg1 hg2 hg3 hz1' hz2' hz3' hb1 hb2 hb3;obtain⟨b8,o8,c8,rfl,hf8⟩:=Sq.OwnZ.fa Fz ho8.out HZ8.out;have HF8:=J hf8;clear hf8 ho8;go_wp2;go_roundw
  case rel=>exact⟨i+1,L.take L.length++(x,fa,fc)::L.drop L.length,b8,o8,c8,hlt,by go_num,congrArg (fun n=>Value.slice (A3 ⟨b8,o8,A0⟩) n c8) zsw,HF8,HNEW,HMEM,by have:=HLE.out;omega,Ac h7W hb8⟩
  case measure=>simp[intOf];omega):P:=h
theorem ypq (h:P:=by
 have HNE2:=J (HNE.out rfl);have HVE2:=J (HVE.out rfl);clear HNE HVE;have hq1:(L.length:Int)<(c1:Int):=oQ;have hq2:(L.length:Int)<=(c1:Int):=oQ;have hq5:¬ c1=L.length:=oQ;exact yeh):P:=h
theorem yid (h:P:=by
 have HNE2:=J (HNE.out rfl);have HVE2:=J (HVE.out rfl);clear HNE HVE;obtain rfl:=hcc;exact yeh):P:=h
theorem v0g (h:P:=by
 have HNEW:Hid ((L.take p++(x,fa,fc)::L.drop p).map (·.1)=Sr.fold by_ lang.data.toList ids (l.take (i+1))):=J (by
  rw[HST.out,if_pos HIN.out,<- HFL.out,hat];simp[List.map_take,List.map_drop])
 have HMEM:Hid (∀ t∈L.take p++(x,fa,fc)::L.drop p,t.1∈l/\Rc.FldA w t.2.1 t.2.2 t.1.fields):=J (fun t ht=>by
  rcases List.mem_append.1 ht with ht | ht
  ·exact HME.out t (List.mem_of_mem_take ht)
  ·rcases List.mem_cons.1 ht with ht | ht
   ·rw[ht];exact HFX.out
   ·exact HME.out t (List.mem_of_mem_drop ht))
 clear hat
 first
  |go_wp2
   have HLT:Hid (((L.take p).flatMap Bs).length=p*5):=J (by rw[Br.flat_len Bs 5 Fz,Az,H4 hp]);have HLD:Hid (((L.drop p).flatMap Bs).length=(L.length - p)*5):=J QZ;have FO:Hid (∀ u∈(L.take p).flatMap Bs,u.oneCell'=true):=J (JA H5 _);have FO2:Hid (∀ u∈(L.drop p).flatMap Bs,u.oneCell'=true):=J (JA H5 _);have FT:Hid (∀ w',Aa V7.heap.size V7 w'->∀ j u,((L.take p).flatMap Bs)[j]?=A3 u->w'.cell? ((⟨b1,o1,A0⟩:Addr).add j)=A3 u):=J (fun w' h9=>g1.out.cellsT Fz oX h9 p);have FD:Hid (∀ w',Aa V7.heap.size V7 w'->∀ j u,((L.drop p).flatMap Bs)[j]?=A3 u->w'.cell? ((⟨b1,o1+p*5,A0⟩:Addr).add j)=A3 u):=J (fun w' h9=>g1.out.cellsD Fz oX h9 p hp (o1+p*5) rfl);have HM1:Hid (0+p<=Ap):=J oK;have HM2:Hid ((0+p)*64<=140737488355328):=J oQ;have HM3:Hid (0+p+1<=Ap):=J oK;have HM4:Hid ((0+p+1)*64<=140737488355328):=J oQ;have HM5:Hid (0+p+1+(L.length - p)<=Ap):=J oK;have HM6:Hid ((0+p+1+(L.length - p))*64<=140737488355328):=J oQ;have HND:Hid (0+p+1+(L.length - p)=L.length+1):=J oQ;have HVD:Hid ([]++(L.take p).flatMap Bs++(Bs (x,fa,fc))++(L.drop p).flatMap Bs=(L.take p++(x,fa,fc)::L.drop p).flatMap Bs):=J oZ;have HNE:Hid (p=L.length->0+p+1+0=L.length+1):=J oQ;have HVE:Hid (p=L.length->[]++(L.take p).flatMap Bs++(Bs (x,fa,fc))++[]=(L.take p++(x,fa,fc)::L.drop p).flatMap Bs):=J QY;have HLE:Hid ((L.take p++(x,fa,fc)::L.drop p).length=L.length+1):=J oW;have HZ8:Hid (L.length+1=(L.take p++(x,fa,fc)::L.drop p).length):=J oW;have hpL:p<=1000:=oQ;have hLL:L.length<=1000:=oQ;rcases (by omega:p<L.length\/(p=L.length/\L.length=c1)\/(p=L.length/\L.length<c1)) with hpc | ⟨hpc,hcc⟩ | ⟨hpc,hcc⟩
   ·have hq1:(p:Int)<=(L.length:Int):=oQ;have hq2:(p:Int)<(c1:Int):=oQ;have hq3:(p:Int)<=(c1:Int):=oQ;have hq4:p<c1:=oQ;have hq5:¬ c1=p:=oQ
    go_region_law (first
     |(refine BM _ oV _ _ 25 oV V7.heap.size 51 i0 _ 5 64 Bn HI1.out hz0 hz1 hz2 oV oX _ (0+p+1) _ oV own2 _ (L.length - p) _ ((L.drop p).flatMap Bs) oV HLD.out (FD.out _ hb2) FO2.out HM5.out HM6.out hb2.size ?_;intro v3 w3 own3 hg3 hz3';have hb3:=hb2.trans hz3')
     |(refine BM _ oV _ _ 25 oV V7.heap.size 51 i0 _ 5 64 Bn HI1.out hz0 hz1 hz2 oV oX _ (0+p) _ oV zsg _ 1 _ (Bs (x,fa,fc)) oV oV YK (H5 _) HM3.out HM4.out QV ?_;intro v2 w2 own2 hg2 hz2';have hb2:Aa V7.heap.size _ w2:=Ef zrx hz2')
     |(refine BM _ oV _ _ 25 oV V7.heap.size 51 i0 _ 5 64 Bn HI1.out hz0 hz1 hz2 oV oX _ 0 [] oV (Sq.OwnZ.lit _ _ _ _ _) _ p _ ((L.take p).flatMap Bs) oV HLT.out (FT.out _ uK) FO.out HM1.out HM2.out aZ ?_;intro v1 w1 own1 hg1 hz1';have hb1:Aa V7.heap.size _ w1:=Ef uK hz1';(first | have hel:=Sq.el1 hg1 | have hel:=Sq.el2 hg1 | skip);have z0:=A4 hb1 u0;have z1:=A4 hb1 u1;have z2:=A4 hb1 u2;have z3:=A4 hb1 u3;have z4:=A4 hb1 u4))
    all_goals
     have ho8:=J (Sr.own_cast own3 HND.out HVD.out);have hb8:=hb3;clear own1 own2 own3 hg1 hg2 hg3 hz1' hz2' hz3' hb1 hb2 hb3;obtain⟨b8,o8,c8,rfl,hf8⟩:=Sq.OwnZ.fa Fz ho8.out HZ8.out;have HF8:=J hf8;clear hf8 ho8;go_wp2;go_roundw
     case rel=>exact⟨i+1,L.take p++(x,fa,fc)::L.drop p,b8,o8,c8,hlt,by go_num,congrArg (fun n=>Value.slice (A3 ⟨b8,o8,A0⟩) n c8) zsw,HF8,HNEW,HMEM,by have:=HLE.out;omega,Ac h7W hb8⟩
     case measure=>simp[intOf];omega
   ·subst hpc;exact yid
   ·subst hpc;exact ypq
  |clear hE
   subst hpe;go_wp2;have HLT:Hid (((L.take L.length).flatMap Bs).length=L.length*5):=J (by rw[Br.flat_len Bs 5 Fz,Az,H4 (Ad _)]);have HLD:Hid (((L.drop L.length).flatMap Bs).length=(L.length - L.length)*5):=J QZ;have FO:Hid (∀ u∈(L.take L.length).flatMap Bs,u.oneCell'=true):=J (JA H5 _);have FO2:Hid (∀ u∈(L.drop L.length).flatMap Bs,u.oneCell'=true):=J (JA H5 _);have FT:Hid (∀ w',Aa V7.heap.size V7 w'->∀ j u,((L.take L.length).flatMap Bs)[j]?=A3 u->w'.cell? ((⟨b1,o1,A0⟩:Addr).add j)=A3 u):=J (fun w' h9=>g1.out.cellsT Fz oX h9 L.length);have FD:Hid (∀ w',Aa V7.heap.size V7 w'->∀ j u,((L.drop L.length).flatMap Bs)[j]?=A3 u->w'.cell? ((⟨b1,o1+L.length*5,A0⟩:Addr).add j)=A3 u):=J (fun w' h9=>g1.out.cellsD Fz oX h9 L.length (Ad _) (o1+L.length*5) rfl);have HM1:Hid (0+L.length<=Ap):=J oK;have HM2:Hid ((0+L.length)*64<=140737488355328):=J oQ;have HM3:Hid (0+L.length+1<=Ap):=J oK;have HM4:Hid ((0+L.length+1)*64<=140737488355328):=J oQ;have HM5:Hid (0+L.length+1+(L.length - L.length)<=Ap):=J oK;have HM6:Hid ((0+L.length+1+(L.length - L.length))*64<=140737488355328):=J oQ;have HND:Hid (0+L.length+1+(L.length - L.length)=L.length+1):=J oQ;have HVD:Hid ([]++(L.take L.length).flatMap Bs++(Bs (x,fa,fc))++(L.drop L.length).flatMap Bs=(L.take L.length++(x,fa,fc)::L.drop L.length).flatMap Bs):=J oZ;have HNE:Hid (L.length=L.length->0+L.length+1+0=L.length+1):=J oQ;have HVE:Hid (L.length=L.length->[]++(L.take L.length).flatMap Bs++(Bs (x,fa,fc))++[]=(L.take L.length++(x,fa,fc)::L.drop L.length).flatMap Bs):=J QY;have HLE:Hid ((L.take L.length++(x,fa,fc)::L.drop L.length).length=L.length+1):=J oZ;have HZ8:Hid (L.length+1=(L.take L.length++(x,fa,fc)::L.drop L.length).length):=J oZ;have hLL:L.length<=1000:=oQ;rcases (by omega:L.length=c1\/L.length<c1) with hcc | hcc
   ·exact yid
   ·exact ypq):P:=h
theorem yrh (h:P:=by
 have hp2:p<L.length:=hplt;go_quiet (fail);have hbq:=DP (Ah wx.heap.size wx) nq;generalize wx.drewN nq=V7 at hbq ⊢;have hb7:=Ac hb6 hbq;have h7W:Aa w.heap.size w V7:=Ac hb hb7;have hbV:=AN hbl h7W.size;have g1:=J (hf1.out.below hb7);have u0:=A4 h7W x0;have u1:=A4 h7W x1;have u2:=A4 h7W x2;have u3:=A4 h7W x3;have u4:=A4 h7W x4;clear hf1 hf2 hbq hb6 z0 z1 z2 z3 z4 y0 y1 y2 y3 y4
 have hat:=Sr.insR_at (by_:=by_) (lang:=lang.data.toList) (x:=x) (L.map (·.1)) p (by rw[Ax];exact hp) (fun j z hj hz=>by
  rw[AP]at hz;obtain⟨t9,ht9,rfl⟩:=D9.1 hz;exact hE.out j t9 hj ht9) (fun q hq=>by
  rw[AP,HZ.out]at hq;injection hq with hq;rw[<- hq];exact HGT.out)
 exact v0g):P:=h
theorem yom (h:P:=by
 go_quiet (fail);have hbq:=DP (Ah wx.heap.size wx) nq;generalize wx.drewN nq=V7 at hbq ⊢;have hb7:=Ac hb6 hbq
 have HE2:Hid (∀ j q,j<p+1->L[j]?=A3 q->Sr.ltV (Gu by_ lang.data.toList x) (Gu by_ lang.data.toList q.1)=false):=J (fun j q hj hq=>by
  rcases (by omega:j<p\/j=p) with h1 | h1
  ·exact hE.out j q h1 hq
  ·subst h1;rw[HZ.out]at hq;injection hq with hq;rw[<- hq];exact HGT.out)
 go_wp2;go_roundw
 case rel=>exact⟨p+1,hplt,by go_num,HE2,hb7⟩
 case measure=>simp[intOf];omega):P:=h
theorem v29 (h:P:=by
 have HGT:Hid (Sr.ltV (Gu by_ lang.data.toList x) (Gu by_ lang.data.toList z.1)=false):=J (Bool.eq_false_iff.2 fun h9=>by rcases HG.out.2 h9 with h8 | h8 <;> omega);have d1:decide (cv > 0)=false:=decide_eq_false oQ
 first
  |have d2:(cv == 0)=false:=beq_eq_false_iff_ne.2 oQ
   exact yom
  |have d2:(cv == 0)=true:=beq_iff_eq.2 g1
   clear g1;exact yom):P:=h
theorem r22_Order_c (l:List Rc.Rd) (la:Option Addr) (lc:Nat) (ids:List Int) (ia:Option Addr) (ic:Nat) (by_:Int) (lang:ByteArray) (w:World) (hl:Rc.RdA w la lc l) (hi:Ix.IA w ia ic ids) (hR:∀ r∈l,Sr.Rg r) (hn:(l.map (·.id)).Nodup) (hll:l.length<=100) :
  Calls Tryz.prog 18 #[.slice la l.length lc,.slice ia ids.length ic,.int .i64 by_,.string lang] w fun e w'=>∃ v,e=.returned v/\Ix.OwnI w' w.heap.size v (JR l ids by_ lang.data.toList)/\Aa w.heap.size w w':=by
 have hml:Ap=9223372036854775807:=rfl;obtain⟨i0,hi0,hz0,hz1,hz2⟩:=info_parts info_rec5;have HI1:=J hi0;clear hi0;obtain⟨i1,hi1,hy0,hy1,hy2⟩:=zhb;have HI2:=J hi1;clear hi1;have HL:=J hl;have HIA:=J hi;have HR:=J hR;have HFIN:=J (Sr.order_fold (by_:=by_) (lang:=lang.data.toList) (ids:=ids) hn);have hcap:=hl.cap;have hmax:=hl.max;clear hl hi hR hn;have hE0:∀ X (wx:World),Br.FA Bs 5 wx (A3 ⟨X,0,A0⟩) 0 []:=fun X wx=>⟨Ad _,Am _,X,0,fun h9=>absurd rfl h9,fun j i x u hx=>by simp at hx⟩;have HE0:=J hE0;clear hE0;go_enter Tryz.func18,Tryz.ntmps18;go_wp2;go_loopw [9,10] (fun s9 ii wr=>∃ (i:Nat) (L:List Rc.RT) (b1 o1 c1:Nat),i<=l.length/\ii=.int .i64 i/\s9=.slice (A3 ⟨b1,o1,A0⟩) L.length c1/\Hid (Br.FA Bs 5 wr (A3 ⟨b1,o1,A0⟩) c1 L)/\Hid (L.map (·.1)=Sr.fold by_ lang.data.toList ids (l.take i))/\Hid (∀ t∈L,t.1∈l/\Rc.FldA w t.2.1 t.2.2 t.1.fields)/\L.length<=i/\Aa w.heap.size w wr) (fun _ i _=>l.length - (intOf i).toNat)
 case atStart=>exact⟨0,[],_,0,0,Am _,rfl,rfl,J (HE0.out _ _),J eY,J eZ,Ad _,Tx.newb _ _⟩
 case round =>
  obtain⟨i,L,b1,o1,c1,hi,rfl,rfl,hf1,hFL,hME,hLi,hb⟩:=hrel;have hcap1:=hf1.out.cap;have hmax1:=hf1.out.max;by_cases hlt:i<l.length
  ·obtain⟨x,hx⟩:∃ x,l[i]?=A3 x:=⟨_,Ai hlt⟩;obtain⟨b,o,fa,fc,rfl,hbl,x0,x1,x2,x3,x4,hfx⟩:=HL.out.get hx;have hst:=Sr.fold_take (by_:=by_) (lang:=lang.data.toList) (ids:=ids) hx;have hxm:=zgk;have HFX:Hid ((x,fa,fc).1∈l/\Rc.FldA w (x,fa,fc).2.1 (x,fa,fc).2.2 (x,fa,fc).1.fields):=J ⟨hxm,hfx⟩;have HST:=J hst;have HFL:=J hFL.out;have HME:=J hME.out;have e0:=A4 hb x0;have HC:=r22_Has_c ids x.id ia ic wr (HIA.out.below hb);clear hst hx hfx hxm hFL hME;by_cases hin:x.id∈ids
   ·rw[decide_eq_true hin]at HC;have HHC:=J HC;have HIN:=J hin;clear HC hin;go_wp2_with (go_at_call 51;(with_reducible refine HHC.out.mono ?_);rintro e w1 ⟨rfl,rfl⟩);obtain⟨wo,hwo⟩:∃ wo,wo=w1:=⟨_,rfl⟩;subst hwo;go_loopw [11,12] (fun k _ wk=>∃ p:Nat,p<=L.length/\k=.int .i64 p/\Hid (∀ j q,j<p->L[j]?=A3 q->Sr.ltV (Gu by_ lang.data.toList x) (Gu by_ lang.data.toList q.1)=false)/\Aa wo.heap.size wo wk) (fun k _ _=>L.length - (intOf k).toNat)
    case atStart=>exact⟨0,Am _,rfl,J (fun j q hj=>absurd hj (Nat.not_lt_zero _)),Ah _ _⟩
    case round =>
     obtain⟨p,hp,rfl,hE,hb5⟩:=hrel;obtain⟨wk,hwk⟩:∃ wk,wk=wr:=⟨_,rfl⟩;subst hwk;have hbk:Aa w.heap.size w wk:=Ac hb hb5;by_cases hplt:p<L.length
     ·obtain⟨z,hz⟩:∃ z,L[p]?=A3 z:=⟨_,Ai hplt⟩;have hf2:=J (hf1.out.below hb5);obtain⟨bz,oz,e1,_,hc1⟩:=hf2.out.get hz;injection e1 with e1;injection e1 with e1 e1';subst e1 e1';have z0:=hc1 0 _ rfl;have z1:=hc1 1 _ rfl;have z2:=hc1 2 _ rfl;have z3:=hc1 3 _ rfl;have z4:=hc1 4 _ rfl;rw[BN]at z0;have y0:=A4 hbk x0;have y1:=A4 hbk x1;have y2:=A4 hbk x2;have y3:=A4 hbk x3;have y4:=A4 hbk x4;obtain⟨hzl,hzf⟩:=HME.out z (List.mem_of_getElem? hz);have CC:∀ W',Aa wk.heap.size wk W'->_:=fun W' h9=>r22_Compare_c by_ lang z.1 x z.2.1 fa z.2.2 fc W' (hzf.below (Ac hbk h9)) (HFX.out.2.below (Ac hbk h9)) (HR.out _ hzl) (HR.out _ HFX.out.1);have hgt:=Sr.firstR_gt by_ lang.data.toList z.1 x;obtain⟨cv,hcv⟩:∃ cv,Sr.firstR by_ lang.data.toList z.1 x=cv:=⟨_,rfl⟩;rw[hcv]at CC hgt;have HCC:=zik;have HG:=J hgt;have HZ:=J hz;have hzi:(p:Int)<(L.length:Int):=oQ;have hii:(i:Int)<(l.length:Int):=oQ;clear CC hgt hcv hzl hzf hc1 hz;go_wp2
      go_region_held3 (fun w'=>Aa wk.heap.size wk w'/\w'.cell? ⟨b1,o1+p*5,A0⟩=A3 (.int .i64 z.1.id)/\w'.cell? ⟨b1,o1+p*5+1,A0⟩=A3 (.int .i64 z.1.ver)/\w'.cell? ⟨b1,o1+p*5+2,A0⟩=A3 (.int .i64 z.1.kind)/\w'.cell? ⟨b1,o1+p*5+3,A0⟩=A3 (.string z.1.lang)/\w'.cell? ⟨b1,o1+p*5+4,A0⟩=A3 (.slice z.2.1 z.1.fields.length z.2.2)/\w'.cell? ⟨b,o+i*5,A0⟩=A3 (.int .i64 x.id)/\w'.cell? ⟨b,o+i*5+1,A0⟩=A3 (.int .i64 x.ver)/\w'.cell? ⟨b,o+i*5+2,A0⟩=A3 (.int .i64 x.kind)/\w'.cell? ⟨b,o+i*5+3,A0⟩=A3 (.string x.lang)/\w'.cell? ⟨b,o+i*5+4,A0⟩=A3 (.slice fa x.fields.length fc))
       (first | exact⟨(Ah _ _).drew,z0,z1,z2,z3,z4,y0,y1,y2,y3,y4⟩ | (go_split_ands;exact⟨Ac ‹_› hbx,by repeat' first | exact A4 hbx ‹_› | constructor⟩))
       (first
        |(go_split_ands;go_at_call 52;((with_reducible refine (HCC.out _ ‹_›).mono ?_);rintro e wx ⟨rfl,hbx⟩)))
      go_split_ands;have hb8:Aa wk.heap.size wk wx:=oB;have hb6:Aa wo.heap.size wo wx:=Ac hb5 hb8;replace z0:=A4 hb8 z0;replace y0:=A4 hb8 y0;go_wp2;rcases (by omega:cv > 0\/cv<0\/(cv=0/\z.1.id > x.id)\/(cv=0/\¬ z.1.id > x.id)) with g1 | g1 | ⟨g1,g2⟩ | ⟨g1,g2⟩
      ·have HGT:Hid (Sr.ltV (Gu by_ lang.data.toList x) (Gu by_ lang.data.toList z.1)=true):=J (HG.out.1 (.inl g1));have d1:decide (cv > 0)=true:=decide_eq_true g1;exact yrh
      ·exact v29
      ·have HGT:Hid (Sr.ltV (Gu by_ lang.data.toList x) (Gu by_ lang.data.toList z.1)=true):=J (HG.out.1 (.inr ⟨g1,oQ⟩));have d1:decide (cv > 0)=false:=decide_eq_false oQ;have d2:(cv == 0)=true:=beq_iff_eq.2 g1;clear g1;exact yrh
      ·exact v29
     ·have hpe:p=L.length:=oQ;obtain⟨V7,hV7⟩:∃ V7,V7=wk:=⟨_,rfl⟩;subst hV7;have h7W:=hbk;have hbV:=AN hbl h7W.size;have g1:=J (hf1.out.below hb5);have u0:=A4 h7W x0;have u1:=A4 h7W x1;have u2:=A4 h7W x2;have u3:=A4 h7W x3;have u4:=A4 h7W x4;clear hf1
      have hat:=Sr.insR_at (by_:=by_) (lang:=lang.data.toList) (x:=x) (L.map (·.1)) p (by rw[Ax];exact hp) (fun j z hj hz=>by
       rw[AP]at hz;obtain⟨t9,ht9,rfl⟩:=D9.1 hz;exact hE.out j t9 hj ht9) (fun q hq=>by
       rw[List.getElem?_eq_none eK]at hq;cases hq)
      exact v0g
   ·rw[decide_eq_false hin]at HC;have HHC:=J HC;have HNEW:Hid (L.map (·.1)=Sr.fold by_ lang.data.toList ids (l.take (i+1))):=J (by rw[HST.out,if_neg hin];exact HFL.out);clear HC hin;go_wp2_with (go_at_call 51;(with_reducible refine HHC.out.mono ?_);rintro e w1 ⟨rfl,rfl⟩);go_roundw
    case rel=>exact⟨i+1,L,b1,o1,c1,hlt,by go_num,rfl,hf1,HNEW,HME,oQ,hb⟩
    case measure=>simp[intOf];omega
  ·obtain rfl:i=l.length:=oQ
   have hfin:L.map (·.1.id)=JR l ids by_ lang.data.toList:=by
    rw[<- HFIN.out,<- show (L.map (·.1)).map (·.id)=L.map (·.1.id) from by rw[List.map_map];rfl,hFL.out,At]
   have HFI:=zrt;have HF1:=J hf1.out;clear hfin hFL hME hf1;obtain⟨wo,hwo⟩:∃ wo,wo=wr:=⟨_,rfl⟩;subst hwo;have hbs:=hb.size;go_wp2;go_loopw [13,14] (fun v k wr=>∃ (k0:Nat),k0<=L.length/\k=.int .i64 k0/\Hid (Ix.OwnI wr wo.heap.size v ((L.take k0).map (·.1.id)))/\Aa wo.heap.size wo wr) (fun _ k _=>L.length - (intOf k).toNat)
   case atStart=>exact⟨0,Am _,rfl,J (by
    rw[List.take_zero];exact World.ownsRow_lit (base:=wo.heap.size) (e:=3) (size:=1) wo #[] 0 oZ oK rfl),Tx.newb _ _⟩
   case round =>
    obtain⟨k,hk,rfl,hown2,hb7⟩:=hrel;have hb7s:=hb7.size;by_cases hlt:k<L.length
    ·obtain⟨t,ht⟩:∃ t,L[k]?=A3 t:=⟨_,Ai hlt⟩;obtain⟨bz,oz,e1,_,hc1⟩:=(HF1.out.below hb7).get ht;injection e1 with e1;injection e1 with e1 e1';subst e1 e1';have z0:=hc1 0 _ rfl;rw[BN]at z0;have htk:(L.take (k+1)).map (·.1.id)=(L.take k).map (·.1.id)++[t.1.id]:=by rw[List.take_add_one,ht,List.map_append];rfl
     have hkl:((L.take k).map (·.1.id)).length=k:=by rw[Ax,Az];omega
     obtain⟨M,hM⟩:∃ M,(L.take k).map (·.1.id)=M:=⟨_,rfl⟩;rw[hM]at htk hkl hown2;have HTK:=J htk;have HKL:=J hkl;have HO2:=J hown2.out;clear htk hkl hM hc1 ht hown2;go_wp2_with (at_builtin;go_must ((refine wpList_append_sl rfl _ _ 35 rfl wo.heap.size 3 i1 _ 1 8 Tryz.underlying35 HI2.out hy0 hy1 hy2 rfl oX _ M.length _ rfl (HO2.out.alloc _) (A3 ⟨_,0,A0⟩) 1 1 [Value.int .i64 t.1.id] rfl rfl oF oD oG zta (by have:=HKL.out;omega) oW ?_);intro v' w8 hown8 hg8 hnil8));go_roundw
     case rel=>exact⟨k+1,hlt,by go_num,J YY,(hb7.alloc hb7s _).grown hg8 oW (fun i hi=>(HO2.out.lt i hi).1)⟩
     case measure=>simp[intOf];omega
    ·obtain rfl:k=L.length:=oQ;have hfin:(L.take L.length).map (·.1.id)=JR l ids by_ lang.data.toList:=by rw[At];exact HFI.out
     have HFI2:=zrt;clear hfin;go_wp2;go_ret;exact⟨_,rfl,Sr.ownI_le (by rw[<- HFI2.out];exact hown2.out) hbs,Ac hb hb7⟩
end Go.Proofs.YtlakomilichhnaaGreatDoor
