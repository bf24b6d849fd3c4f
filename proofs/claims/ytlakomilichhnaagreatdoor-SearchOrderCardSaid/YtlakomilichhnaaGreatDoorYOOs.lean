/- Texts of this seat's, what the claim needs of them. -/
import Derived.Test.YtlakomilichhnaaGreatDoorYOOq
import Derived.Test.YtlakomilichhnaaGreatDoorZOi
import Derived.Test.YtlakomilichhnaaGreatDoorYOPd
namespace Go.Proofs.YtlakomilichhnaaGreatDoor
set_option maxHeartbeats 12800000
set_option maxRecDepth 100000
open Go.RowKit
open Br renaming cells_new_at→AR,flat_len→GR,flat_one→Hf
open Go renaming Addr→Ao,cell_later→A0,maxLen→Au
open Lib renaming hid→J
open List renaming drop_of_length_le→MN,getElem?_eq_getElem→A7,getElem?_map→AE,length_drop→AG,length_map→At,length_take→Az,map_append→AS,map_drop→I8,map_take→I7,mem_append→AZ,mem_cons→B9,mem_of_getElem?→Ag,mem_of_mem_drop→Jg,mem_of_mem_take→Cb,take_length→Ap,take_zero→Bt
open Nat renaming add_zero→Bs,le_refl→An,lt_of_lt_of_le→B1,min_eq_left→Hs,zero_le→Ae
open Option renaming map_eq_some_iff→BZ,none→A4,some→A2
open Proofs.Tryz renaming underlying25→BE
open Rc renaming FldA→AV,encR→BA,encR_len→DS,r_one→Hh
open RowKit renaming Below→A6,intOf→Ad
open RowKit.Below renaming refl→Ab,trans→Fh
open Sq renaming step_append_z→Cq
open Sq.OwnZ renaming fa→KO,lit→Kd
open Sr renaming order→Jt,vals→H6
open Tx renaming below_drewN→Ba,newb→Aa,step→A8
open Value renaming slice→Em
namespace Sr
theorem own_cast {w:World}{B e size n n':Nat}{v:Value}{xs ys:List Value} (h:Sq.OwnZ w B e size v n xs) (hn:n=n') (hx:xs=ys):Sq.OwnZ w B e size v n' ys:=by rw[← hn,← hx];exact h
end Sr
theorem r22_Order_c (l:List Rc.Rd) (la:Option Ao) (lc:Nat) (ids:List Int) (ia:Option Ao) (ic:Nat) (by_:Int) (lang:ByteArray) (w:World) (hl:Rc.RdA w la lc l) (hi:Ix.IA w ia ic ids) (hR:∀ r∈l,Sr.Rg r) (hn:(l.map (·.id)).Nodup) (hll:l.length≤100) :
  Calls Tryz.prog 18 #[.slice la l.length lc,.slice ia ids.length ic,.int .i64 by_,.string lang] w fun e w'=>∃ v,e=.returned v∧Ix.OwnI w' w.heap.size v (Jt l ids by_ lang.data.toList)∧A6 w.heap.size w w':=by
 have hml:Au=9223372036854775807:=rfl
 obtain⟨i0,hi0,hz0,hz1,hz2⟩:=info_parts info_rec5
 have HI1:=J hi0;clear hi0
 obtain⟨i1,hi1,hy0,hy1,hy2⟩:=info_parts info_int
 have HI2:=J hi1;clear hi1
 have HL:=J hl
 have HIA:=J hi
 have HR:=J hR
 have HFIN:=J (Sr.order_fold (by_:=by_) (lang:=lang.data.toList) (ids:=ids) hn)
 have hcap:=hl.cap
 have hmax:=hl.max
 clear hl hi hR hn
 have hE0:∀ X (wx:World),Br.FA BA 5 wx (A2 ⟨X,0,A4⟩) 0 []:=fun X wx=>⟨An _,Ae _,X,0,fun h9=>absurd rfl h9,fun j i x u hx=>by simp at hx⟩
 have HE0:=J hE0
 clear hE0
 go_enter Tryz.func18,Tryz.ntmps18
 go_wp2
 go_loopw [9,10] (fun s9 ii wr=>∃ (i:Nat) (L:List Rc.RT) (b1 o1 c1:Nat),i≤l.length∧ii=.int .i64 i∧s9=.slice (A2 ⟨b1,o1,A4⟩) L.length c1∧Hid (Br.FA BA 5 wr (A2 ⟨b1,o1,A4⟩) c1 L)∧Hid (L.map (·.1)=Sr.fold by_ lang.data.toList ids (l.take i))∧Hid (∀ t∈L,t.1∈l∧AV w t.2.1 t.2.2 t.1.fields)∧L.length≤i∧A6 w.heap.size w wr) (fun _ i _=>l.length - (Ad i).toNat)
 case atStart=>exact⟨0,[],_,0,0,Ae _,rfl,rfl,J (HE0.out _ _),J (by rw[Bt];rfl),J (fun t ht=>by cases ht),An _,Aa _ _⟩
 case round =>
  obtain⟨i,L,b1,o1,c1,hi,rfl,rfl,hf1,hFL,hME,hLi,hb⟩:=hrel
  have hcap1:=hf1.out.cap
  have hmax1:=hf1.out.max
  by_cases hlt:i<l.length
  ·obtain⟨x,hx⟩:∃ x,l[i]?=A2 x:=⟨_,A7 hlt⟩
   obtain⟨b,o,fa,fc,rfl,hbl,x0,x1,x2,x3,x4,hfx⟩:=HL.out.get hx
   have hst:=Sr.fold_take (by_:=by_) (lang:=lang.data.toList) (ids:=ids) hx
   have hxm:=Ag hx
   have HFX:Hid ((x,fa,fc).1∈l∧AV w (x,fa,fc).2.1 (x,fa,fc).2.2 (x,fa,fc).1.fields):=J ⟨hxm,hfx⟩
   have HST:=J hst
   have HFL:=J hFL.out
   have HME:=J hME.out
   have e0:=A0 hb x0
   have HC:=r22_Has_c ids x.id ia ic wr (HIA.out.below hb)
   clear hst hx hfx hxm hFL hME
   by_cases hin:x.id∈ids
   ·rw[decide_eq_true hin]at HC
    have HHC:=J HC
    have HIN:=J hin
    clear HC hin
    go_wp2_with (go_at_call 51;((with_reducible refine HHC.out.mono ?_);rintro e w1 ⟨rfl,rfl⟩))
    obtain⟨wo,hwo⟩:∃ wo,wo=w1:=⟨_,rfl⟩
    subst hwo
    go_loopw [11,12] (fun k _ wk=>∃ p:Nat,p≤L.length∧k=.int .i64 p∧Hid (∀ j q,j<p→L[j]?=A2 q→Sr.ltV (H6 by_ lang.data.toList x) (H6 by_ lang.data.toList q.1)=false)∧A6 wo.heap.size wo wk) (fun k _ _=>L.length - (Ad k).toNat)
    case atStart=>exact⟨0,Ae _,rfl,J (fun j q hj=>absurd hj (Nat.not_lt_zero _)),Ab _ _⟩
    case round =>
     obtain⟨p,hp,rfl,hE,hb5⟩:=hrel
     obtain⟨wk,hwk⟩:∃ wk,wk=wr:=⟨_,rfl⟩
     subst hwk
     have hbk:A6 w.heap.size w wk:=A8 hb hb5
     by_cases hplt:p<L.length
     ·obtain⟨z,hz⟩:∃ z,L[p]?=A2 z:=⟨_,A7 hplt⟩
      have hf2:=J (hf1.out.below hb5)
      obtain⟨bz,oz,e1,_,hc1⟩:=hf2.out.get hz
      injection e1 with e1
      injection e1 with e1 e1'
      subst e1 e1'
      have z0:=hc1 0 _ rfl
      have z1:=hc1 1 _ rfl
      have z2:=hc1 2 _ rfl
      have z3:=hc1 3 _ rfl
      have z4:=hc1 4 _ rfl
      rw[Bs]at z0
      have y0:=A0 hbk x0
      have y1:=A0 hbk x1
      have y2:=A0 hbk x2
      have y3:=A0 hbk x3
      have y4:=A0 hbk x4
      obtain⟨hzl,hzf⟩:=HME.out z (Ag hz)
      have CC:∀ W',A6 wk.heap.size wk W'→_:=fun W' h9=>r22_Compare_c by_ lang z.1 x z.2.1 fa z.2.2 fc W' (hzf.below (A8 hbk h9)) (HFX.out.2.below (A8 hbk h9)) (HR.out _ hzl) (HR.out _ HFX.out.1)
      have hgt:=Sr.firstR_gt by_ lang.data.toList z.1 x
      obtain⟨cv,hcv⟩:∃ cv,Sr.firstR by_ lang.data.toList z.1 x=cv:=⟨_,rfl⟩
      rw[hcv]at CC hgt
      have HCC:=J CC
      have HG:=J hgt
      have HZ:=J hz
      have hzi:(p:Int)<(L.length:Int):=by omega
      have hii:(i:Int)<(l.length:Int):=by omega
      clear CC hgt hcv hzl hzf hc1 hz
      go_wp2
      go_region_held3 (fun w'=>A6 wk.heap.size wk w'∧w'.cell? ⟨b1,o1+p*5,A4⟩=A2 (.int .i64 z.1.id)∧w'.cell? ⟨b1,o1+p*5+1,A4⟩=A2 (.int .i64 z.1.ver)∧w'.cell? ⟨b1,o1+p*5+2,A4⟩=A2 (.int .i64 z.1.kind)∧w'.cell? ⟨b1,o1+p*5+3,A4⟩=A2 (.string z.1.lang)∧w'.cell? ⟨b1,o1+p*5+4,A4⟩=A2 (.slice z.2.1 z.1.fields.length z.2.2)∧w'.cell? ⟨b,o+i*5,A4⟩=A2 (.int .i64 x.id)∧w'.cell? ⟨b,o+i*5+1,A4⟩=A2 (.int .i64 x.ver)∧w'.cell? ⟨b,o+i*5+2,A4⟩=A2 (.int .i64 x.kind)∧w'.cell? ⟨b,o+i*5+3,A4⟩=A2 (.string x.lang)∧w'.cell? ⟨b,o+i*5+4,A4⟩=A2 (.slice fa x.fields.length fc))
       (first | exact⟨(Ab _ _).drew,z0,z1,z2,z3,z4,y0,y1,y2,y3,y4⟩ | (go_split_ands;exact⟨A8 ‹_› hbx,by repeat' first | exact A0 hbx ‹_› | constructor⟩))
       (first
        |(go_split_ands;go_at_call 52;((with_reducible refine (HCC.out _ ‹_›).mono ?_);rintro e wx ⟨rfl,hbx⟩)))
      go_split_ands
      have hb8:A6 wk.heap.size wk wx:=by assumption
      have hb6:A6 wo.heap.size wo wx:=A8 hb5 hb8
      replace z0:=A0 hb8 z0
      replace y0:=A0 hb8 y0
      go_wp2
      rcases (by omega:cv > 0∨cv<0∨(cv=0∧z.1.id > x.id)∨(cv=0∧¬ z.1.id > x.id)) with g1 | g1 | ⟨g1,g2⟩ | ⟨g1,g2⟩
      ·have HGT:Hid (Sr.ltV (H6 by_ lang.data.toList x) (H6 by_ lang.data.toList z.1)=true):=J (HG.out.1 (.inl g1))
       have d1:decide (cv > 0)=true:=decide_eq_true g1
       have hp2:p<L.length:=hplt
       go_quiet (fail)
       have hbq:=Ba (Ab wx.heap.size wx) nq
       generalize wx.drewN nq=V7 at hbq ⊢
       have hb7:=A8 hb6 hbq
       have h7W:A6 w.heap.size w V7:=A8 hb hb7
       have hbV:=B1 hbl h7W.size
       have g1:=J (hf1.out.below hb7)
       have u0:=A0 h7W x0
       have u1:=A0 h7W x1
       have u2:=A0 h7W x2
       have u3:=A0 h7W x3
       have u4:=A0 h7W x4
       clear hf1 hf2 hbq hb6 z0 z1 z2 z3 z4 y0 y1 y2 y3 y4
       have hat:=Sr.insR_at (by_:=by_) (lang:=lang.data.toList) (x:=x) (L.map (·.1)) p (by rw[At];exact hp) (fun j z hj hz=>by
        rw[AE]at hz
        obtain⟨t9,ht9,rfl⟩:=BZ.1 hz
        exact hE.out j t9 hj ht9) (fun q hq=>by
        rw[AE,HZ.out]at hq
        injection hq with hq
        rw[← hq]
        exact HGT.out)
       have HNEW:Hid ((L.take p++(x,fa,fc)::L.drop p).map (·.1)=Sr.fold by_ lang.data.toList ids (l.take (i+1))):=J (by
        rw[HST.out,if_pos HIN.out,← HFL.out,hat]
        simp[I7,I8])
       have HMEM:Hid (∀ t∈L.take p++(x,fa,fc)::L.drop p,t.1∈l∧AV w t.2.1 t.2.2 t.1.fields):=J (fun t ht=>by
        rcases AZ.1 ht with ht | ht
        ·exact HME.out t (Cb ht)
        ·rcases B9.1 ht with ht | ht
         ·rw[ht];exact HFX.out
         ·exact HME.out t (Jg ht))
       clear hat
       go_wp2
       have HLT:Hid (((L.take p).flatMap BA).length=p*5):=J (by rw[GR BA 5 DS,Az,Hs hp])
       have HLD:Hid (((L.drop p).flatMap BA).length=(L.length - p)*5):=J (by rw[GR BA 5 DS,AG])
       have FO:Hid (∀ u∈(L.take p).flatMap BA,u.oneCell'=true):=J (Hf Hh _)
       have FO2:Hid (∀ u∈(L.drop p).flatMap BA,u.oneCell'=true):=J (Hf Hh _)
       have FT:Hid (∀ w',A6 V7.heap.size V7 w'→∀ j u,((L.take p).flatMap BA)[j]?=A2 u→w'.cell? ((⟨b1,o1,A4⟩:Ao).add j)=A2 u):=J (fun w' h9=>g1.out.cellsT DS (by decide) h9 p)
       have FD:Hid (∀ w',A6 V7.heap.size V7 w'→∀ j u,((L.drop p).flatMap BA)[j]?=A2 u→w'.cell? ((⟨b1,o1+p*5,A4⟩:Ao).add j)=A2 u):=J (fun w' h9=>g1.out.cellsD DS (by decide) h9 p hp (o1+p*5) rfl)
       have HM1:Hid (0+p≤Au):=J (by unfold Au;omega)
       have HM2:Hid ((0+p)*64≤140737488355328):=J (by omega)
       have HM3:Hid (0+p+1≤Au):=J (by unfold Au;omega)
       have HM4:Hid ((0+p+1)*64≤140737488355328):=J (by omega)
       have HM5:Hid (0+p+1+(L.length - p)≤Au):=J (by unfold Au;omega)
       have HM6:Hid ((0+p+1+(L.length - p))*64≤140737488355328):=J (by omega)
       have HND:Hid (0+p+1+(L.length - p)=L.length+1):=J (by omega)
       have HVD:Hid ([]++(L.take p).flatMap BA++(BA (x,fa,fc))++(L.drop p).flatMap BA=(L.take p++(x,fa,fc)::L.drop p).flatMap BA):=J (by simp)
       have HNE:Hid (p=L.length→0+p+1+0=L.length+1):=J (by omega)
       have HVE:Hid (p=L.length→[]++(L.take p).flatMap BA++(BA (x,fa,fc))++[]=(L.take p++(x,fa,fc)::L.drop p).flatMap BA):=J (fun h9=>by rw[MN (by omega)];simp)
       have HLE:Hid ((L.take p++(x,fa,fc)::L.drop p).length=L.length+1):=J (by simp;omega)
       have HZ8:Hid (L.length+1=(L.take p++(x,fa,fc)::L.drop p).length):=J (by simp;omega)
       have hpL:p≤1000:=by omega
       have hLL:L.length≤1000:=by omega
       rcases (by omega:p<L.length∨(p=L.length∧L.length=c1)∨(p=L.length∧L.length<c1)) with hpc | ⟨hpc,hcc⟩ | ⟨hpc,hcc⟩
       ·have hq1:(p:Int)≤(L.length:Int):=by omega
        have hq2:(p:Int)<(c1:Int):=by omega
        have hq3:(p:Int)≤(c1:Int):=by omega
        have hq4:p<c1:=by omega
        have hq5:¬ c1=p:=by omega
        go_region_law (first
         |(refine Cq _ (by rfl) _ _ 25 (by rfl) V7.heap.size 51 i0 _ 5 64 BE HI1.out hz0 hz1 hz2 (by rfl) (by decide) _ (0+p+1) _ (by rfl) own2 _ (L.length - p) _ ((L.drop p).flatMap BA) (by rfl) HLD.out (FD.out _ hb2) FO2.out HM5.out HM6.out hb2.size ?_;intro v3 w3 own3 hg3 hz3';have hb3:=hb2.trans hz3')
         |(refine Cq _ (by rfl) _ _ 25 (by rfl) V7.heap.size 51 i0 _ 5 64 BE HI1.out hz0 hz1 hz2 (by rfl) (by decide) _ (0+p) _ (by rfl) (by first | exact own1 | exact own1.alloc _) _ 1 _ (BA (x,fa,fc)) (by rfl) (by rfl) (by first | exact hel | exact AR _ _ (by first | rfl | simp) _ _) (Hh _) HM3.out HM4.out (by first | exact hb1.size | (have:=hb1.size;simp;omega)) ?_;intro v2 w2 own2 hg2 hz2';have hb2:A6 V7.heap.size _ w2:=Fh (by first | exact hb1 | exact hb1.alloc hb1.size _) hz2')
         |(refine Cq _ (by rfl) _ _ 25 (by rfl) V7.heap.size 51 i0 _ 5 64 BE HI1.out hz0 hz1 hz2 (by rfl) (by decide) _ 0 [] (by rfl) (Kd _ _ _ _ _) _ p _ ((L.take p).flatMap BA) (by rfl) HLT.out (FT.out _ (by first | exact (Aa _ _).drew | exact ((Aa _ _).alloc (by simp) _).drew)) FO.out HM1.out HM2.out (by simp;try omega) ?_;intro v1 w1 own1 hg1 hz1';have hb1:A6 V7.heap.size _ w1:=Fh (by first | exact (Aa _ _).drew | exact ((Aa _ _).alloc (by simp) _).drew) hz1';(first | have hel:=Sq.el1 hg1 | have hel:=Sq.el2 hg1 | skip);have z0:=A0 hb1 u0;have z1:=A0 hb1 u1;have z2:=A0 hb1 u2;have z3:=A0 hb1 u3;have z4:=A0 hb1 u4))
        all_goals
         have ho8:=J (Sr.own_cast own3 HND.out HVD.out)
         have hb8:=hb3
         clear own1 own2 own3 hg1 hg2 hg3 hz1' hz2' hz3' hb1 hb2 hb3
         obtain⟨b8,o8,c8,rfl,hf8⟩:=KO DS ho8.out HZ8.out
         have HF8:=J hf8
         clear hf8 ho8
         go_wp2
         go_roundw
         case rel=>exact⟨i+1,L.take p++(x,fa,fc)::L.drop p,b8,o8,c8,hlt,by go_num,congrArg (fun n=>Em (A2 ⟨b8,o8,A4⟩) n c8) (by first | (simp;done) | (simp;omega)),HF8,HNEW,HMEM,by have:=HLE.out;omega,A8 h7W hb8⟩
         case measure=>simp[Ad];omega
       ·subst hpc
        have HNE2:=J (HNE.out rfl)
        have HVE2:=J (HVE.out rfl)
        clear HNE HVE
        obtain rfl:=hcc
        go_region_law (first
         |(refine Cq _ (by rfl) _ _ 25 (by rfl) V7.heap.size 51 i0 _ 5 64 BE HI1.out hz0 hz1 hz2 (by rfl) (by decide) _ (0+L.length+1) _ (by rfl) own2 _ 0 _ [] (by rfl) (by rfl) (fun j u h9=>by simp at h9) (fun u h9=>by simp at h9) HM3.out HM4.out hb2.size ?_;intro v3 w3 own3 hg3 hz3';have hb3:=hb2.trans hz3')
         |(refine Cq _ (by rfl) _ _ 25 (by rfl) V7.heap.size 51 i0 _ 5 64 BE HI1.out hz0 hz1 hz2 (by rfl) (by decide) _ (0+L.length) _ (by rfl) (by first | exact own1 | exact own1.alloc _) _ 1 _ (BA (x,fa,fc)) (by rfl) (by rfl) (by first | exact hel | exact AR _ _ (by first | rfl | simp) _ _) (Hh _) HM3.out HM4.out (by first | exact hb1.size | (have:=hb1.size;simp;omega)) ?_;intro v2 w2 own2 hg2 hz2';have hb2:A6 V7.heap.size _ w2:=Fh (by first | exact hb1 | exact hb1.alloc hb1.size _) hz2')
         |(refine Cq _ (by rfl) _ _ 25 (by rfl) V7.heap.size 51 i0 _ 5 64 BE HI1.out hz0 hz1 hz2 (by rfl) (by decide) _ 0 [] (by rfl) (Kd _ _ _ _ _) _ L.length _ ((L.take L.length).flatMap BA) (by rfl) HLT.out (FT.out _ (by first | exact (Aa _ _).drew | exact ((Aa _ _).alloc (by simp) _).drew)) FO.out HM1.out HM2.out (by simp;try omega) ?_;intro v1 w1 own1 hg1 hz1';have hb1:A6 V7.heap.size _ w1:=Fh (by first | exact (Aa _ _).drew | exact ((Aa _ _).alloc (by simp) _).drew) hz1';(first | have hel:=Sq.el1 hg1 | have hel:=Sq.el2 hg1 | skip);have z0:=A0 hb1 u0;have z1:=A0 hb1 u1;have z2:=A0 hb1 u2;have z3:=A0 hb1 u3;have z4:=A0 hb1 u4))
        all_goals
         have ho8:=J (Sr.own_cast own3 HNE2.out HVE2.out)
         have hb8:=hb3
         clear own1 own2 own3 hg1 hg2 hg3 hz1' hz2' hz3' hb1 hb2 hb3
         obtain⟨b8,o8,c8,rfl,hf8⟩:=KO DS ho8.out HZ8.out
         have HF8:=J hf8
         clear hf8 ho8
         go_wp2
         go_roundw
         case rel=>exact⟨i+1,L.take L.length++(x,fa,fc)::L.drop L.length,b8,o8,c8,hlt,by go_num,congrArg (fun n=>Em (A2 ⟨b8,o8,A4⟩) n c8) (by first | (simp;done) | (simp;omega)),HF8,HNEW,HMEM,by have:=HLE.out;omega,A8 h7W hb8⟩
         case measure=>simp[Ad];omega
       ·subst hpc
        have HNE2:=J (HNE.out rfl)
        have HVE2:=J (HVE.out rfl)
        clear HNE HVE
        have hq1:(L.length:Int)<(c1:Int):=by omega
        have hq2:(L.length:Int)≤(c1:Int):=by omega
        have hq5:¬ c1=L.length:=by omega
        go_region_law (first
         |(refine Cq _ (by rfl) _ _ 25 (by rfl) V7.heap.size 51 i0 _ 5 64 BE HI1.out hz0 hz1 hz2 (by rfl) (by decide) _ (0+L.length+1) _ (by rfl) own2 _ 0 _ [] (by rfl) (by rfl) (fun j u h9=>by simp at h9) (fun u h9=>by simp at h9) HM3.out HM4.out hb2.size ?_;intro v3 w3 own3 hg3 hz3';have hb3:=hb2.trans hz3')
         |(refine Cq _ (by rfl) _ _ 25 (by rfl) V7.heap.size 51 i0 _ 5 64 BE HI1.out hz0 hz1 hz2 (by rfl) (by decide) _ (0+L.length) _ (by rfl) (by first | exact own1 | exact own1.alloc _) _ 1 _ (BA (x,fa,fc)) (by rfl) (by rfl) (by first | exact hel | exact AR _ _ (by first | rfl | simp) _ _) (Hh _) HM3.out HM4.out (by first | exact hb1.size | (have:=hb1.size;simp;omega)) ?_;intro v2 w2 own2 hg2 hz2';have hb2:A6 V7.heap.size _ w2:=Fh (by first | exact hb1 | exact hb1.alloc hb1.size _) hz2')
         |(refine Cq _ (by rfl) _ _ 25 (by rfl) V7.heap.size 51 i0 _ 5 64 BE HI1.out hz0 hz1 hz2 (by rfl) (by decide) _ 0 [] (by rfl) (Kd _ _ _ _ _) _ L.length _ ((L.take L.length).flatMap BA) (by rfl) HLT.out (FT.out _ (by first | exact (Aa _ _).drew | exact ((Aa _ _).alloc (by simp) _).drew)) FO.out HM1.out HM2.out (by simp;try omega) ?_;intro v1 w1 own1 hg1 hz1';have hb1:A6 V7.heap.size _ w1:=Fh (by first | exact (Aa _ _).drew | exact ((Aa _ _).alloc (by simp) _).drew) hz1';(first | have hel:=Sq.el1 hg1 | have hel:=Sq.el2 hg1 | skip);have z0:=A0 hb1 u0;have z1:=A0 hb1 u1;have z2:=A0 hb1 u2;have z3:=A0 hb1 u3;have z4:=A0 hb1 u4))
        all_goals
         have ho8:=J (Sr.own_cast own3 HNE2.out HVE2.out)
         have hb8:=hb3
         clear own1 own2 own3 hg1 hg2 hg3 hz1' hz2' hz3' hb1 hb2 hb3
         obtain⟨b8,o8,c8,rfl,hf8⟩:=KO DS ho8.out HZ8.out
         have HF8:=J hf8
         clear hf8 ho8
         go_wp2
         go_roundw
         case rel=>exact⟨i+1,L.take L.length++(x,fa,fc)::L.drop L.length,b8,o8,c8,hlt,by go_num,congrArg (fun n=>Em (A2 ⟨b8,o8,A4⟩) n c8) (by first | (simp;done) | (simp;omega)),HF8,HNEW,HMEM,by have:=HLE.out;omega,A8 h7W hb8⟩
         case measure=>simp[Ad];omega
      ·have HGT:Hid (Sr.ltV (H6 by_ lang.data.toList x) (H6 by_ lang.data.toList z.1)=false):=J (Bool.eq_false_iff.2 fun h9=>by rcases HG.out.2 h9 with h8 | h8 <;> omega)
       have d1:decide (cv > 0)=false:=decide_eq_false (by omega)
       have d2:(cv == 0)=false:=beq_eq_false_iff_ne.2 (by omega)
       go_quiet (fail)
       have hbq:=Ba (Ab wx.heap.size wx) nq
       generalize wx.drewN nq=V7 at hbq ⊢
       have hb7:=A8 hb6 hbq
       have HE2:Hid (∀ j q,j<p+1→L[j]?=A2 q→Sr.ltV (H6 by_ lang.data.toList x) (H6 by_ lang.data.toList q.1)=false):=J (fun j q hj hq=>by
        rcases (by omega:j<p∨j=p) with h1 | h1
        ·exact hE.out j q h1 hq
        ·subst h1
         rw[HZ.out]at hq;injection hq with hq;rw[← hq];exact HGT.out)
       go_wp2
       go_roundw
       case rel=>exact⟨p+1,hplt,by go_num,HE2,hb7⟩
       case measure=>simp[Ad];omega
      ·have HGT:Hid (Sr.ltV (H6 by_ lang.data.toList x) (H6 by_ lang.data.toList z.1)=true):=J (HG.out.1 (.inr ⟨g1,by omega⟩))
       have d1:decide (cv > 0)=false:=decide_eq_false (by omega)
       have d2:(cv == 0)=true:=beq_iff_eq.2 g1
       clear g1
       have hp2:p<L.length:=hplt
       go_quiet (fail)
       have hbq:=Ba (Ab wx.heap.size wx) nq
       generalize wx.drewN nq=V7 at hbq ⊢
       have hb7:=A8 hb6 hbq
       have h7W:A6 w.heap.size w V7:=A8 hb hb7
       have hbV:=B1 hbl h7W.size
       have g1:=J (hf1.out.below hb7)
       have u0:=A0 h7W x0
       have u1:=A0 h7W x1
       have u2:=A0 h7W x2
       have u3:=A0 h7W x3
       have u4:=A0 h7W x4
       clear hf1 hf2 hbq hb6 z0 z1 z2 z3 z4 y0 y1 y2 y3 y4
       have hat:=Sr.insR_at (by_:=by_) (lang:=lang.data.toList) (x:=x) (L.map (·.1)) p (by rw[At];exact hp) (fun j z hj hz=>by
        rw[AE]at hz
        obtain⟨t9,ht9,rfl⟩:=BZ.1 hz
        exact hE.out j t9 hj ht9) (fun q hq=>by
        rw[AE,HZ.out]at hq
        injection hq with hq
        rw[← hq]
        exact HGT.out)
       have HNEW:Hid ((L.take p++(x,fa,fc)::L.drop p).map (·.1)=Sr.fold by_ lang.data.toList ids (l.take (i+1))):=J (by
        rw[HST.out,if_pos HIN.out,← HFL.out,hat]
        simp[I7,I8])
       have HMEM:Hid (∀ t∈L.take p++(x,fa,fc)::L.drop p,t.1∈l∧AV w t.2.1 t.2.2 t.1.fields):=J (fun t ht=>by
        rcases AZ.1 ht with ht | ht
        ·exact HME.out t (Cb ht)
        ·rcases B9.1 ht with ht | ht
         ·rw[ht];exact HFX.out
         ·exact HME.out t (Jg ht))
       clear hat
       go_wp2
       have HLT:Hid (((L.take p).flatMap BA).length=p*5):=J (by rw[GR BA 5 DS,Az,Hs hp])
       have HLD:Hid (((L.drop p).flatMap BA).length=(L.length - p)*5):=J (by rw[GR BA 5 DS,AG])
       have FO:Hid (∀ u∈(L.take p).flatMap BA,u.oneCell'=true):=J (Hf Hh _)
       have FO2:Hid (∀ u∈(L.drop p).flatMap BA,u.oneCell'=true):=J (Hf Hh _)
       have FT:Hid (∀ w',A6 V7.heap.size V7 w'→∀ j u,((L.take p).flatMap BA)[j]?=A2 u→w'.cell? ((⟨b1,o1,A4⟩:Ao).add j)=A2 u):=J (fun w' h9=>g1.out.cellsT DS (by decide) h9 p)
       have FD:Hid (∀ w',A6 V7.heap.size V7 w'→∀ j u,((L.drop p).flatMap BA)[j]?=A2 u→w'.cell? ((⟨b1,o1+p*5,A4⟩:Ao).add j)=A2 u):=J (fun w' h9=>g1.out.cellsD DS (by decide) h9 p hp (o1+p*5) rfl)
       have HM1:Hid (0+p≤Au):=J (by unfold Au;omega)
       have HM2:Hid ((0+p)*64≤140737488355328):=J (by omega)
       have HM3:Hid (0+p+1≤Au):=J (by unfold Au;omega)
       have HM4:Hid ((0+p+1)*64≤140737488355328):=J (by omega)
       have HM5:Hid (0+p+1+(L.length - p)≤Au):=J (by unfold Au;omega)
       have HM6:Hid ((0+p+1+(L.length - p))*64≤140737488355328):=J (by omega)
       have HND:Hid (0+p+1+(L.length - p)=L.length+1):=J (by omega)
       have HVD:Hid ([]++(L.take p).flatMap BA++(BA (x,fa,fc))++(L.drop p).flatMap BA=(L.take p++(x,fa,fc)::L.drop p).flatMap BA):=J (by simp)
       have HNE:Hid (p=L.length→0+p+1+0=L.length+1):=J (by omega)
       have HVE:Hid (p=L.length→[]++(L.take p).flatMap BA++(BA (x,fa,fc))++[]=(L.take p++(x,fa,fc)::L.drop p).flatMap BA):=J (fun h9=>by rw[MN (by omega)];simp)
       have HLE:Hid ((L.take p++(x,fa,fc)::L.drop p).length=L.length+1):=J (by simp;omega)
       have HZ8:Hid (L.length+1=(L.take p++(x,fa,fc)::L.drop p).length):=J (by simp;omega)
       have hpL:p≤1000:=by omega
       have hLL:L.length≤1000:=by omega
       rcases (by omega:p<L.length∨(p=L.length∧L.length=c1)∨(p=L.length∧L.length<c1)) with hpc | ⟨hpc,hcc⟩ | ⟨hpc,hcc⟩
       ·have hq1:(p:Int)≤(L.length:Int):=by omega
        have hq2:(p:Int)<(c1:Int):=by omega
        have hq3:(p:Int)≤(c1:Int):=by omega
        have hq4:p<c1:=by omega
        have hq5:¬ c1=p:=by omega
        go_region_law (first
         |(refine Cq _ (by rfl) _ _ 25 (by rfl) V7.heap.size 51 i0 _ 5 64 BE HI1.out hz0 hz1 hz2 (by rfl) (by decide) _ (0+p+1) _ (by rfl) own2 _ (L.length - p) _ ((L.drop p).flatMap BA) (by rfl) HLD.out (FD.out _ hb2) FO2.out HM5.out HM6.out hb2.size ?_;intro v3 w3 own3 hg3 hz3';have hb3:=hb2.trans hz3')
         |(refine Cq _ (by rfl) _ _ 25 (by rfl) V7.heap.size 51 i0 _ 5 64 BE HI1.out hz0 hz1 hz2 (by rfl) (by decide) _ (0+p) _ (by rfl) (by first | exact own1 | exact own1.alloc _) _ 1 _ (BA (x,fa,fc)) (by rfl) (by rfl) (by first | exact hel | exact AR _ _ (by first | rfl | simp) _ _) (Hh _) HM3.out HM4.out (by first | exact hb1.size | (have:=hb1.size;simp;omega)) ?_;intro v2 w2 own2 hg2 hz2';have hb2:A6 V7.heap.size _ w2:=Fh (by first | exact hb1 | exact hb1.alloc hb1.size _) hz2')
         |(refine Cq _ (by rfl) _ _ 25 (by rfl) V7.heap.size 51 i0 _ 5 64 BE HI1.out hz0 hz1 hz2 (by rfl) (by decide) _ 0 [] (by rfl) (Kd _ _ _ _ _) _ p _ ((L.take p).flatMap BA) (by rfl) HLT.out (FT.out _ (by first | exact (Aa _ _).drew | exact ((Aa _ _).alloc (by simp) _).drew)) FO.out HM1.out HM2.out (by simp;try omega) ?_;intro v1 w1 own1 hg1 hz1';have hb1:A6 V7.heap.size _ w1:=Fh (by first | exact (Aa _ _).drew | exact ((Aa _ _).alloc (by simp) _).drew) hz1';(first | have hel:=Sq.el1 hg1 | have hel:=Sq.el2 hg1 | skip);have z0:=A0 hb1 u0;have z1:=A0 hb1 u1;have z2:=A0 hb1 u2;have z3:=A0 hb1 u3;have z4:=A0 hb1 u4))
        all_goals
         have ho8:=J (Sr.own_cast own3 HND.out HVD.out)
         have hb8:=hb3
         clear own1 own2 own3 hg1 hg2 hg3 hz1' hz2' hz3' hb1 hb2 hb3
         obtain⟨b8,o8,c8,rfl,hf8⟩:=KO DS ho8.out HZ8.out
         have HF8:=J hf8
         clear hf8 ho8
         go_wp2
         go_roundw
         case rel=>exact⟨i+1,L.take p++(x,fa,fc)::L.drop p,b8,o8,c8,hlt,by go_num,congrArg (fun n=>Em (A2 ⟨b8,o8,A4⟩) n c8) (by first | (simp;done) | (simp;omega)),HF8,HNEW,HMEM,by have:=HLE.out;omega,A8 h7W hb8⟩
         case measure=>simp[Ad];omega
       ·subst hpc
        have HNE2:=J (HNE.out rfl)
        have HVE2:=J (HVE.out rfl)
        clear HNE HVE
        obtain rfl:=hcc
        go_region_law (first
         |(refine Cq _ (by rfl) _ _ 25 (by rfl) V7.heap.size 51 i0 _ 5 64 BE HI1.out hz0 hz1 hz2 (by rfl) (by decide) _ (0+L.length+1) _ (by rfl) own2 _ 0 _ [] (by rfl) (by rfl) (fun j u h9=>by simp at h9) (fun u h9=>by simp at h9) HM3.out HM4.out hb2.size ?_;intro v3 w3 own3 hg3 hz3';have hb3:=hb2.trans hz3')
         |(refine Cq _ (by rfl) _ _ 25 (by rfl) V7.heap.size 51 i0 _ 5 64 BE HI1.out hz0 hz1 hz2 (by rfl) (by decide) _ (0+L.length) _ (by rfl) (by first | exact own1 | exact own1.alloc _) _ 1 _ (BA (x,fa,fc)) (by rfl) (by rfl) (by first | exact hel | exact AR _ _ (by first | rfl | simp) _ _) (Hh _) HM3.out HM4.out (by first | exact hb1.size | (have:=hb1.size;simp;omega)) ?_;intro v2 w2 own2 hg2 hz2';have hb2:A6 V7.heap.size _ w2:=Fh (by first | exact hb1 | exact hb1.alloc hb1.size _) hz2')
         |(refine Cq _ (by rfl) _ _ 25 (by rfl) V7.heap.size 51 i0 _ 5 64 BE HI1.out hz0 hz1 hz2 (by rfl) (by decide) _ 0 [] (by rfl) (Kd _ _ _ _ _) _ L.length _ ((L.take L.length).flatMap BA) (by rfl) HLT.out (FT.out _ (by first | exact (Aa _ _).drew | exact ((Aa _ _).alloc (by simp) _).drew)) FO.out HM1.out HM2.out (by simp;try omega) ?_;intro v1 w1 own1 hg1 hz1';have hb1:A6 V7.heap.size _ w1:=Fh (by first | exact (Aa _ _).drew | exact ((Aa _ _).alloc (by simp) _).drew) hz1';(first | have hel:=Sq.el1 hg1 | have hel:=Sq.el2 hg1 | skip);have z0:=A0 hb1 u0;have z1:=A0 hb1 u1;have z2:=A0 hb1 u2;have z3:=A0 hb1 u3;have z4:=A0 hb1 u4))
        all_goals
         have ho8:=J (Sr.own_cast own3 HNE2.out HVE2.out)
         have hb8:=hb3
         clear own1 own2 own3 hg1 hg2 hg3 hz1' hz2' hz3' hb1 hb2 hb3
         obtain⟨b8,o8,c8,rfl,hf8⟩:=KO DS ho8.out HZ8.out
         have HF8:=J hf8
         clear hf8 ho8
         go_wp2
         go_roundw
         case rel=>exact⟨i+1,L.take L.length++(x,fa,fc)::L.drop L.length,b8,o8,c8,hlt,by go_num,congrArg (fun n=>Em (A2 ⟨b8,o8,A4⟩) n c8) (by first | (simp;done) | (simp;omega)),HF8,HNEW,HMEM,by have:=HLE.out;omega,A8 h7W hb8⟩
         case measure=>simp[Ad];omega
       ·subst hpc
        have HNE2:=J (HNE.out rfl)
        have HVE2:=J (HVE.out rfl)
        clear HNE HVE
        have hq1:(L.length:Int)<(c1:Int):=by omega
        have hq2:(L.length:Int)≤(c1:Int):=by omega
        have hq5:¬ c1=L.length:=by omega
        go_region_law (first
         |(refine Cq _ (by rfl) _ _ 25 (by rfl) V7.heap.size 51 i0 _ 5 64 BE HI1.out hz0 hz1 hz2 (by rfl) (by decide) _ (0+L.length+1) _ (by rfl) own2 _ 0 _ [] (by rfl) (by rfl) (fun j u h9=>by simp at h9) (fun u h9=>by simp at h9) HM3.out HM4.out hb2.size ?_;intro v3 w3 own3 hg3 hz3';have hb3:=hb2.trans hz3')
         |(refine Cq _ (by rfl) _ _ 25 (by rfl) V7.heap.size 51 i0 _ 5 64 BE HI1.out hz0 hz1 hz2 (by rfl) (by decide) _ (0+L.length) _ (by rfl) (by first | exact own1 | exact own1.alloc _) _ 1 _ (BA (x,fa,fc)) (by rfl) (by rfl) (by first | exact hel | exact AR _ _ (by first | rfl | simp) _ _) (Hh _) HM3.out HM4.out (by first | exact hb1.size | (have:=hb1.size;simp;omega)) ?_;intro v2 w2 own2 hg2 hz2';have hb2:A6 V7.heap.size _ w2:=Fh (by first | exact hb1 | exact hb1.alloc hb1.size _) hz2')
         |(refine Cq _ (by rfl) _ _ 25 (by rfl) V7.heap.size 51 i0 _ 5 64 BE HI1.out hz0 hz1 hz2 (by rfl) (by decide) _ 0 [] (by rfl) (Kd _ _ _ _ _) _ L.length _ ((L.take L.length).flatMap BA) (by rfl) HLT.out (FT.out _ (by first | exact (Aa _ _).drew | exact ((Aa _ _).alloc (by simp) _).drew)) FO.out HM1.out HM2.out (by simp;try omega) ?_;intro v1 w1 own1 hg1 hz1';have hb1:A6 V7.heap.size _ w1:=Fh (by first | exact (Aa _ _).drew | exact ((Aa _ _).alloc (by simp) _).drew) hz1';(first | have hel:=Sq.el1 hg1 | have hel:=Sq.el2 hg1 | skip);have z0:=A0 hb1 u0;have z1:=A0 hb1 u1;have z2:=A0 hb1 u2;have z3:=A0 hb1 u3;have z4:=A0 hb1 u4))
        all_goals
         have ho8:=J (Sr.own_cast own3 HNE2.out HVE2.out)
         have hb8:=hb3
         clear own1 own2 own3 hg1 hg2 hg3 hz1' hz2' hz3' hb1 hb2 hb3
         obtain⟨b8,o8,c8,rfl,hf8⟩:=KO DS ho8.out HZ8.out
         have HF8:=J hf8
         clear hf8 ho8
         go_wp2
         go_roundw
         case rel=>exact⟨i+1,L.take L.length++(x,fa,fc)::L.drop L.length,b8,o8,c8,hlt,by go_num,congrArg (fun n=>Em (A2 ⟨b8,o8,A4⟩) n c8) (by first | (simp;done) | (simp;omega)),HF8,HNEW,HMEM,by have:=HLE.out;omega,A8 h7W hb8⟩
         case measure=>simp[Ad];omega
      ·have HGT:Hid (Sr.ltV (H6 by_ lang.data.toList x) (H6 by_ lang.data.toList z.1)=false):=J (Bool.eq_false_iff.2 fun h9=>by rcases HG.out.2 h9 with h8 | h8 <;> omega)
       have d1:decide (cv > 0)=false:=decide_eq_false (by omega)
       have d2:(cv == 0)=true:=beq_iff_eq.2 g1
       clear g1
       go_quiet (fail)
       have hbq:=Ba (Ab wx.heap.size wx) nq
       generalize wx.drewN nq=V7 at hbq ⊢
       have hb7:=A8 hb6 hbq
       have HE2:Hid (∀ j q,j<p+1→L[j]?=A2 q→Sr.ltV (H6 by_ lang.data.toList x) (H6 by_ lang.data.toList q.1)=false):=J (fun j q hj hq=>by
        rcases (by omega:j<p∨j=p) with h1 | h1
        ·exact hE.out j q h1 hq
        ·subst h1
         rw[HZ.out]at hq;injection hq with hq;rw[← hq];exact HGT.out)
       go_wp2
       go_roundw
       case rel=>exact⟨p+1,hplt,by go_num,HE2,hb7⟩
       case measure=>simp[Ad];omega
     ·have hpe:p=L.length:=by omega
      obtain⟨V7,hV7⟩:∃ V7,V7=wk:=⟨_,rfl⟩
      subst hV7
      have h7W:=hbk
      have hbV:=B1 hbl h7W.size
      have g1:=J (hf1.out.below hb5)
      have u0:=A0 h7W x0
      have u1:=A0 h7W x1
      have u2:=A0 h7W x2
      have u3:=A0 h7W x3
      have u4:=A0 h7W x4
      clear hf1
      have hat:=Sr.insR_at (by_:=by_) (lang:=lang.data.toList) (x:=x) (L.map (·.1)) p (by rw[At];exact hp) (fun j z hj hz=>by
       rw[AE]at hz
       obtain⟨t9,ht9,rfl⟩:=BZ.1 hz
       exact hE.out j t9 hj ht9) (fun q hq=>by
       rw[List.getElem?_eq_none (by rw[At];omega)]at hq
       cases hq)
      have HNEW:Hid ((L.take p++(x,fa,fc)::L.drop p).map (·.1)=Sr.fold by_ lang.data.toList ids (l.take (i+1))):=J (by
       rw[HST.out,if_pos HIN.out,← HFL.out,hat]
       simp[I7,I8])
      have HMEM:Hid (∀ t∈L.take p++(x,fa,fc)::L.drop p,t.1∈l∧AV w t.2.1 t.2.2 t.1.fields):=J (fun t ht=>by
       rcases AZ.1 ht with ht | ht
       ·exact HME.out t (Cb ht)
       ·rcases B9.1 ht with ht | ht
        ·rw[ht];exact HFX.out
        ·exact HME.out t (Jg ht))
      clear hat
      clear hE
      subst hpe
      go_wp2
      have HLT:Hid (((L.take L.length).flatMap BA).length=L.length*5):=J (by rw[GR BA 5 DS,Az,Hs (An _)])
      have HLD:Hid (((L.drop L.length).flatMap BA).length=(L.length - L.length)*5):=J (by rw[GR BA 5 DS,AG])
      have FO:Hid (∀ u∈(L.take L.length).flatMap BA,u.oneCell'=true):=J (Hf Hh _)
      have FO2:Hid (∀ u∈(L.drop L.length).flatMap BA,u.oneCell'=true):=J (Hf Hh _)
      have FT:Hid (∀ w',A6 V7.heap.size V7 w'→∀ j u,((L.take L.length).flatMap BA)[j]?=A2 u→w'.cell? ((⟨b1,o1,A4⟩:Ao).add j)=A2 u):=J (fun w' h9=>g1.out.cellsT DS (by decide) h9 L.length)
      have FD:Hid (∀ w',A6 V7.heap.size V7 w'→∀ j u,((L.drop L.length).flatMap BA)[j]?=A2 u→w'.cell? ((⟨b1,o1+L.length*5,A4⟩:Ao).add j)=A2 u):=J (fun w' h9=>g1.out.cellsD DS (by decide) h9 L.length (An _) (o1+L.length*5) rfl)
      have HM1:Hid (0+L.length≤Au):=J (by unfold Au;omega)
      have HM2:Hid ((0+L.length)*64≤140737488355328):=J (by omega)
      have HM3:Hid (0+L.length+1≤Au):=J (by unfold Au;omega)
      have HM4:Hid ((0+L.length+1)*64≤140737488355328):=J (by omega)
      have HM5:Hid (0+L.length+1+(L.length - L.length)≤Au):=J (by unfold Au;omega)
      have HM6:Hid ((0+L.length+1+(L.length - L.length))*64≤140737488355328):=J (by omega)
      have HND:Hid (0+L.length+1+(L.length - L.length)=L.length+1):=J (by omega)
      have HVD:Hid ([]++(L.take L.length).flatMap BA++(BA (x,fa,fc))++(L.drop L.length).flatMap BA=(L.take L.length++(x,fa,fc)::L.drop L.length).flatMap BA):=J (by simp)
      have HNE:Hid (L.length=L.length→0+L.length+1+0=L.length+1):=J (by omega)
      have HVE:Hid (L.length=L.length→[]++(L.take L.length).flatMap BA++(BA (x,fa,fc))++[]=(L.take L.length++(x,fa,fc)::L.drop L.length).flatMap BA):=J (fun h9=>by rw[MN (by omega)];simp)
      have HLE:Hid ((L.take L.length++(x,fa,fc)::L.drop L.length).length=L.length+1):=J (by simp)
      have HZ8:Hid (L.length+1=(L.take L.length++(x,fa,fc)::L.drop L.length).length):=J (by simp)
      have hLL:L.length≤1000:=by omega
      rcases (by omega:L.length=c1∨L.length<c1) with hcc | hcc
      ·have HNE2:=J (HNE.out rfl)
       have HVE2:=J (HVE.out rfl)
       clear HNE HVE
       obtain rfl:=hcc
       go_region_law (first
        |(refine Cq _ (by rfl) _ _ 25 (by rfl) V7.heap.size 51 i0 _ 5 64 BE HI1.out hz0 hz1 hz2 (by rfl) (by decide) _ (0+L.length+1) _ (by rfl) own2 _ 0 _ [] (by rfl) (by rfl) (fun j u h9=>by simp at h9) (fun u h9=>by simp at h9) HM3.out HM4.out hb2.size ?_;intro v3 w3 own3 hg3 hz3';have hb3:=hb2.trans hz3')
        |(refine Cq _ (by rfl) _ _ 25 (by rfl) V7.heap.size 51 i0 _ 5 64 BE HI1.out hz0 hz1 hz2 (by rfl) (by decide) _ (0+L.length) _ (by rfl) (by first | exact own1 | exact own1.alloc _) _ 1 _ (BA (x,fa,fc)) (by rfl) (by rfl) (by first | exact hel | exact AR _ _ (by first | rfl | simp) _ _) (Hh _) HM3.out HM4.out (by first | exact hb1.size | (have:=hb1.size;simp;omega)) ?_;intro v2 w2 own2 hg2 hz2';have hb2:A6 V7.heap.size _ w2:=Fh (by first | exact hb1 | exact hb1.alloc hb1.size _) hz2')
        |(refine Cq _ (by rfl) _ _ 25 (by rfl) V7.heap.size 51 i0 _ 5 64 BE HI1.out hz0 hz1 hz2 (by rfl) (by decide) _ 0 [] (by rfl) (Kd _ _ _ _ _) _ L.length _ ((L.take L.length).flatMap BA) (by rfl) HLT.out (FT.out _ (by first | exact (Aa _ _).drew | exact ((Aa _ _).alloc (by simp) _).drew)) FO.out HM1.out HM2.out (by simp;try omega) ?_;intro v1 w1 own1 hg1 hz1';have hb1:A6 V7.heap.size _ w1:=Fh (by first | exact (Aa _ _).drew | exact ((Aa _ _).alloc (by simp) _).drew) hz1';(first | have hel:=Sq.el1 hg1 | have hel:=Sq.el2 hg1 | skip);have z0:=A0 hb1 u0;have z1:=A0 hb1 u1;have z2:=A0 hb1 u2;have z3:=A0 hb1 u3;have z4:=A0 hb1 u4))
       all_goals
        have ho8:=J (Sr.own_cast own3 HNE2.out HVE2.out)
        have hb8:=hb3
        clear own1 own2 own3 hg1 hg2 hg3 hz1' hz2' hz3' hb1 hb2 hb3
        obtain⟨b8,o8,c8,rfl,hf8⟩:=KO DS ho8.out HZ8.out
        have HF8:=J hf8
        clear hf8 ho8
        go_wp2
        go_roundw
        case rel=>exact⟨i+1,L.take L.length++(x,fa,fc)::L.drop L.length,b8,o8,c8,hlt,by go_num,congrArg (fun n=>Em (A2 ⟨b8,o8,A4⟩) n c8) (by first | (simp;done) | (simp;omega)),HF8,HNEW,HMEM,by have:=HLE.out;omega,A8 h7W hb8⟩
        case measure=>simp[Ad];omega
      ·have HNE2:=J (HNE.out rfl)
       have HVE2:=J (HVE.out rfl)
       clear HNE HVE
       have hq1:(L.length:Int)<(c1:Int):=by omega
       have hq2:(L.length:Int)≤(c1:Int):=by omega
       have hq5:¬ c1=L.length:=by omega
       go_region_law (first
        |(refine Cq _ (by rfl) _ _ 25 (by rfl) V7.heap.size 51 i0 _ 5 64 BE HI1.out hz0 hz1 hz2 (by rfl) (by decide) _ (0+L.length+1) _ (by rfl) own2 _ 0 _ [] (by rfl) (by rfl) (fun j u h9=>by simp at h9) (fun u h9=>by simp at h9) HM3.out HM4.out hb2.size ?_;intro v3 w3 own3 hg3 hz3';have hb3:=hb2.trans hz3')
        |(refine Cq _ (by rfl) _ _ 25 (by rfl) V7.heap.size 51 i0 _ 5 64 BE HI1.out hz0 hz1 hz2 (by rfl) (by decide) _ (0+L.length) _ (by rfl) (by first | exact own1 | exact own1.alloc _) _ 1 _ (BA (x,fa,fc)) (by rfl) (by rfl) (by first | exact hel | exact AR _ _ (by first | rfl | simp) _ _) (Hh _) HM3.out HM4.out (by first | exact hb1.size | (have:=hb1.size;simp;omega)) ?_;intro v2 w2 own2 hg2 hz2';have hb2:A6 V7.heap.size _ w2:=Fh (by first | exact hb1 | exact hb1.alloc hb1.size _) hz2')
        |(refine Cq _ (by rfl) _ _ 25 (by rfl) V7.heap.size 51 i0 _ 5 64 BE HI1.out hz0 hz1 hz2 (by rfl) (by decide) _ 0 [] (by rfl) (Kd _ _ _ _ _) _ L.length _ ((L.take L.length).flatMap BA) (by rfl) HLT.out (FT.out _ (by first | exact (Aa _ _).drew | exact ((Aa _ _).alloc (by simp) _).drew)) FO.out HM1.out HM2.out (by simp;try omega) ?_;intro v1 w1 own1 hg1 hz1';have hb1:A6 V7.heap.size _ w1:=Fh (by first | exact (Aa _ _).drew | exact ((Aa _ _).alloc (by simp) _).drew) hz1';(first | have hel:=Sq.el1 hg1 | have hel:=Sq.el2 hg1 | skip);have z0:=A0 hb1 u0;have z1:=A0 hb1 u1;have z2:=A0 hb1 u2;have z3:=A0 hb1 u3;have z4:=A0 hb1 u4))
       all_goals
        have ho8:=J (Sr.own_cast own3 HNE2.out HVE2.out)
        have hb8:=hb3
        clear own1 own2 own3 hg1 hg2 hg3 hz1' hz2' hz3' hb1 hb2 hb3
        obtain⟨b8,o8,c8,rfl,hf8⟩:=KO DS ho8.out HZ8.out
        have HF8:=J hf8
        clear hf8 ho8
        go_wp2
        go_roundw
        case rel=>exact⟨i+1,L.take L.length++(x,fa,fc)::L.drop L.length,b8,o8,c8,hlt,by go_num,congrArg (fun n=>Em (A2 ⟨b8,o8,A4⟩) n c8) (by first | (simp;done) | (simp;omega)),HF8,HNEW,HMEM,by have:=HLE.out;omega,A8 h7W hb8⟩
        case measure=>simp[Ad];omega
   ·rw[decide_eq_false hin]at HC
    have HHC:=J HC
    have HNEW:Hid (L.map (·.1)=Sr.fold by_ lang.data.toList ids (l.take (i+1))):=J (by rw[HST.out,if_neg hin];exact HFL.out)
    clear HC hin
    go_wp2_with (go_at_call 51;((with_reducible refine HHC.out.mono ?_);rintro e w1 ⟨rfl,rfl⟩))
    go_roundw
    case rel=>exact⟨i+1,L,b1,o1,c1,hlt,by go_num,rfl,hf1,HNEW,HME,by omega,hb⟩
    case measure=>simp[Ad];omega
  ·obtain rfl:i=l.length:=by omega
   have hfin:L.map (·.1.id)=Jt l ids by_ lang.data.toList:=by
    rw[← HFIN.out,← show (L.map (·.1)).map (·.id)=L.map (·.1.id) from by rw[List.map_map];rfl,hFL.out,Ap]
   have HFI:=J hfin
   have HF1:=J hf1.out
   clear hfin hFL hME hf1
   obtain⟨wo,hwo⟩:∃ wo,wo=wr:=⟨_,rfl⟩
   subst hwo
   have hbs:=hb.size
   go_wp2
   go_loopw [13,14] (fun v k wr=>∃ (k0:Nat),k0≤L.length∧k=.int .i64 k0∧Hid (Ix.OwnI wr wo.heap.size v ((L.take k0).map (·.1.id)))∧A6 wo.heap.size wo wr) (fun _ k _=>L.length - (Ad k).toNat)
   case atStart=>exact⟨0,Ae _,rfl,J (by
    rw[Bt]
    exact World.ownsRow_lit (base:=wo.heap.size) (e:=3) (size:=1) wo #[] 0 (by simp) (by unfold Au;omega) rfl),Aa _ _⟩
   case round =>
    obtain⟨k,hk,rfl,hown2,hb7⟩:=hrel
    have hb7s:=hb7.size
    by_cases hlt:k<L.length
    ·obtain⟨t,ht⟩:∃ t,L[k]?=A2 t:=⟨_,A7 hlt⟩
     obtain⟨bz,oz,e1,_,hc1⟩:=(HF1.out.below hb7).get ht
     injection e1 with e1
     injection e1 with e1 e1'
     subst e1 e1'
     have z0:=hc1 0 _ rfl
     rw[Bs]at z0
     have htk:(L.take (k+1)).map (·.1.id)=(L.take k).map (·.1.id)++[t.1.id]:=by rw[List.take_add_one,ht,AS];rfl
     have hkl:((L.take k).map (·.1.id)).length=k:=by rw[At,Az];omega
     obtain⟨M,hM⟩:∃ M,(L.take k).map (·.1.id)=M:=⟨_,rfl⟩
     rw[hM]at htk hkl hown2
     have HTK:=J htk
     have HKL:=J hkl
     have HO2:=J hown2.out
     clear htk hkl hM hc1 ht hown2
     go_wp2_with (at_builtin;go_must ((refine wpList_append_sl rfl _ _ 35 rfl wo.heap.size 3 i1 _ 1 8 Tryz.underlying35 HI2.out hy0 hy1 hy2 rfl (by decide) _ M.length _ rfl (HO2.out.alloc _) (A2 ⟨_,0,A4⟩) 1 1 [Value.int .i64 t.1.id] rfl rfl (fun h9=>by cases h9) (fun ad had=>by cases had;exact AR _ _ (by first | rfl | simp) _ _) (by simp[Value.oneCell']) (by unfold Au;have:=HKL.out;omega) (by have:=HKL.out;omega) (by simp;omega) ?_);intro v' w8 hown8 hg8 hnil8))
     go_roundw
     case rel=>exact⟨k+1,hlt,by go_num,J (by unfold Ix.OwnI;rw[HTK.out,List.length_append,AS];exact hown8),(hb7.alloc hb7s _).grown hg8 (by simp;omega) (fun i hi=>(HO2.out.lt i hi).1)⟩
     case measure=>simp[Ad];omega
    ·obtain rfl:k=L.length:=by omega
     have hfin:(L.take L.length).map (·.1.id)=Jt l ids by_ lang.data.toList:=by rw[Ap];exact HFI.out
     have HFI2:=J hfin
     clear hfin
     go_wp2
     go_ret
     exact⟨_,rfl,Sr.ownI_le (by rw[← HFI2.out];exact hown2.out) hbs,A8 hb hb7⟩
end Go.Proofs.YtlakomilichhnaaGreatDoor
