/- Parts. -/
import Derived.Test.YtlakomilichhnaaGreatDoorROz
namespace Go.Proofs.YtlakomilichhnaaGreatDoor
set_option maxHeartbeats 32000000
set_option maxRecDepth 100000
open Go.RowKit
open Bool renaming or_eq_false_iff->E9,or_eq_true->DS,or_false->If
open Go renaming Calls->Af,World->Ab,bodyPost_ret->Aw
open Lib renaming hid->J,size_eq->Ao
open List renaming append_assoc->AW,append_nil->AB,drop_drop->BQ,flatMap_append->AR,getD_eq_getElem?_getD->Bi,length_append->Ag,length_cons->AH,length_drop->Ay,length_nil->Bw,mem_append->AQ,mem_cons->AL,mem_singleton->B9,take_succ_cons->El
open Nat renaming le_refl->Ad,sub_self->F9
open Option renaming none->A0,some->A3
open Proofs renaming intOf->Aj,own_below->B4
open Proofs.Tryz renaming func56->JG,ntmps56->Jc,prog->A8,underlying137->FY,underlying27->DG
open Qr renaming QC->D6,QT->G0,Qy->Cq,RRes->BV,RT->CS,Tok->AM,andB->F2,eats_all->DO,encQ->Bb,ext_eq->LI,isOp->E6,joined->GI,kn->Il,lAnd->Fw,lOr->Jt,lk->AT,nodes_all->Ex,orB->Io,pAnd->GX,pNot->EJ,pOr->DN,parse->BI,q0_c->JD,rightE->GH,sgn->JT,t0->Gz,tokF->JB,tokens->Bm
open RowKit renaming Below->Aa
open Tx renaming blk_later->A6,newb->A9,own_set->Ik,put6->DK,step->Ac,valid->AE
open World renaming ownsRow_lit->Eo,size_alloc->An
variable {P:Prop}
theorem yk1 (h:P:=by
 have hPS:=Qr.blk_put8 KPS.out (.int .i64 uo) (.int .i64 uf) (.slice usa usn usc) (.int .i64 ua) (.int .i64 ub) (.slice uka ukn ukc) (.int .i64 un) (.bool uz);have hRS:=Qr.far8 KRS.out (show w.heap.size≠w1.heap.size by omega) (.int .i64 uo) (.int .i64 uf) (.slice usa usn usc) (.int .i64 ua) (.int .i64 ub) (.slice uka ukn ukc) (.int .i64 un) (.bool uz);have hBS:=Qr.put8 kS (show w.heap.size<=w1.heap.size by omega) (.int .i64 uo) (.int .i64 uf) (.slice usa usn usc) (.int .i64 ua) (.int .i64 ub) (.slice uka ukn ukc) (.int .i64 un) (.bool uz);have hmsS:=Qr.ms_of (N:=toks.length) hPS;have hGS2:=hGN.1.put8 (.int .i64 uo) (.int .i64 uf) (.slice usa usn usc) (.int .i64 ua) (.int .i64 ub) (.slice uka ukn ukc) (.int .i64 un) (.bool uz);have HGN:=J hGN.2;have HG2:=J hGS2;have HMS2:=J hmsS;clear hGN hGS2 hmsS;go_roundw
 case rel=>exact⟨k,acc++[q],T++[(⟨po,pf,psa,psn,psc,pa,pb,pka,pkn,pkc⟩:G0)],uo,uf,ua,ub,usa,usn,usc,uka,ukn,ukc,un,uz,oQ,HG2,hHDS,hownS,hnP7,hPS,hRS,hBS⟩
 case measure =>
  have m3:=HGN.out;rw[HMS2.out,HMS.out];cases uz with
  | false=>simp only[Bool.false_eq_true,reduceIte];omega
  | true=>simp only[reduceIte];have m4:=m3 rfl;omega):P:=h
theorem yhn (h:P:=by
 have hHDS:=hHD7.map (fun k t hd=>((hd.later hb8).later hbS).put8 (.int .i64 uo) (.int .i64 uf) (.slice usa usn usc) (.int .i64 ua) (.int .i64 ub) (.slice uka ukn ukc) (.int .i64 un) (.bool uz));have hownS:=Qr.own_put8 (B4 (B4 hown8 hb8) hbS) hnP7 (.int .i64 uo) (.int .i64 uf) (.slice usa usn usc) (.int .i64 ua) (.int .i64 ub) (.slice uka ukn ukc) (.int .i64 un) (.bool uz);exact yk1):P:=h
theorem ymq (h:P:=by
 have e1:=HS1.out;refine⟨n,[],[],po,pf,pa,pb,psa,psn,psc,pka,pkn,pkc,pn,pz,Ad _,J ?_,Qr.HD.nil _ _ _ _,?_,?_,heap_alloc_new w1 _,A6 KR1.out (A9 w1 _),hk1.alloc hk1.size _⟩
 ·rcases HHR.out.two with⟨rfl,hx⟩ | ⟨rfl,q,r1,hx,hpn,hq⟩
  ·exact .inl ⟨rfl,by rw[HX0.out,hx];rfl⟩
  ·have hea:=HE0.out q r1 hx;refine .inr ⟨rfl,q,r1,hea.1.trans hr,hpn,by have:=hea.2;omega,by rw[HX0.out,hx];rfl,⟨_,w1,hq,Qr.Kp.below (A9 w1 _),fun b hb=>.inl ?_,.inr (Ad _),by rw[An];omega⟩,?_⟩
   ·have h9:w.heap.size+1=b\/W.heap.size=b:=by first | (left;simpa [Value.ownBlock] using hb) | (right;simpa [Value.ownBlock] using hb)
    rw[An];omega
   ·have:=HB0.out q r1 hx;simp only[Qr.nodesL,Bw];omega
 ·have h9:=Eo (base:=w.heap.size+1) (e:=29) (size:=6) W #[] 0 oQ oK rfl;exact (B4 h9 hb1).alloc _
 ·intro h9;have h8:W.heap.size=w1.heap.size:=by simpa [Value.ownBlock] using h9
  omega):P:=h
theorem yhh (h:P:=by
 rw[Qr.nodesL_app,Ag];simp only[Qr.nodesL,AH,Bw];omega):P:=h
theorem yyh (h:P:=by
 rcases HHS.out.two with⟨rfl,hx⟩ | ⟨rfl,q2,r2,hx,hun,hq⟩
 ·exact⟨.inl ⟨rfl,by rw[HXS.out,hx];rfl⟩,fun h9=>by cases h9⟩
 ·have hea:=HES.out q2 r2 hx;have hnn:=HNS.out q2 r2 hx;have hl2:=(hea.1.trans HRS.out.1).length_le;have hl3:=HRS.out.2;have hea2:=hea.2;refine⟨.inr ⟨rfl,q2,r2,hea.1.trans HRS.out.1,hun,oQ,by rw[HXS.out,hx];rfl,⟨_,wS,hq,Qr.Kp.refl _ _,fun b hb=>.inl (by have:=hlt7 b hb;omega),.inl oQ,by have:=k8.size;omega⟩,?_⟩,fun _=>?_⟩
  ·exact yhh
  ·have:=HA1.out;omega):P:=h
theorem yhj (h:P:=by
 rcases hnil7 with h9 | h9
 ·rw[h9]at e;exact HNP.out e
 ·rw[h9]at e;injection e with e;rw[An]at e;omega):P:=h
theorem r21_and_c (toks:List AM) (b o c n:Nat) (hSub:∀ (m:Nat) (r:List AM) (w:Ab),m<=n->8*r.length+5<=m->r <:+ toks->CS w toks b o c->Af A8 265 #[.slice (A3 ⟨b,o,A0⟩) (toks.length+1) c,.int .i64 ((toks.length - r.length:Nat):Int)] w (BV toks (EJ false m r) w))
  (r:List AM) (w:Ab) (hn:8*r.length+6<=n+1) (hr:r <:+ toks) (h:CS w toks b o c) :
  Af A8 205 #[.slice (A3 ⟨b,o,A0⟩) (toks.length+1) c,.int .i64 ((toks.length - r.length:Nat):Int)] w (BV toks (GX false (n+1) r) w):=by
 obtain⟨i0,hi0,hz0,hz1,hz2⟩:=zms;have HI:=J hi0;clear hi0;have hlen:=h.len;have hbl:=h.lt;have hcap:=h.cap;have hmax:=h.max;have hmx:maxLen=9223372036854775807:=rfl;have hrl:=hr.length_le;have HH:=zkq;obtain⟨x0,hx0⟩:∃ x,EJ false n r=x:=⟨_,rfl⟩;have h0:=znr;rw[hx0]at h0;have he0:=(DO false n).2.2.2.2.1 r;have hb0:=(Ex false n).2.2.2.2.1 r;rw[hx0]at he0 hb0;obtain⟨X,hX⟩:∃ X,GX false (n+1) r=X:=⟨_,rfl⟩;have hXe:X=Qr.next x0 (fun q r'=>Fw false n [q] r'):=by rw[<- hX,GX,hx0];rfl
 rw[hX];obtain⟨A,hA⟩:=zu;rw[hA]at h0 ⊢;have HS0:=J h0;have HE0:=J he0;have HB0:=J hb0;have HX0:=J hXe;have HSUB:=J hSub;clear h0 he0 hb0 hXe hX hx0 hA hSub h;obtain⟨W,hW⟩:=zbo;have hB:=zi;have hs1:=zv;have KR:=zn;have HS1:=J hs1;clear hs1;have hB1:=zkr;go_enter Tryz.func205,Tryz.ntmps205;go_wp2_with (go_at_call 265;(with_reducible refine (HS0.out _ (HH.out.below hB1)).mono ?_);rintro e w1 hh;obtain⟨po,pf,pa,pb,psa,psn,psc,pka,pkn,pkc,pn,pz,rfl,hb1⟩:=hh.vals;have HHR:=zpp;clear hh);have s1:=hb1.size;rw[An]at s1;have hk1:Aa w.heap.size w w1:=Ac hB1 hb1;have kR1:=zka;have KR1:=J kR1;clear kR1;clear hW;go_loopw [5] (fun v wr=>∃ (m:Nat) (acc:List Cq) (T:List G0) (po pf pa pb:Int) (psa:Option Addr) (psn psc:Nat) (pka:Option Addr) (pkn pkc:Nat) (pn:Int) (pz:Bool),m<=n/\Hid (Qr.GS toks r (w.heap.size+1) w1.heap.size wr v.ownBlock X (Fw false) 6 m acc (⟨po,pf,psa,psn,psc,pa,pb,pka,pkn,pkc⟩:G0) pn pz)/\Qr.HD (w.heap.size+1) w1.heap.size wr v.ownBlock acc T/\wr.ownsRow (w.heap.size+1) 29 6 v T.length (T.flatMap Bb)/\v.ownBlock≠A3 w1.heap.size/\wr.heap[w1.heap.size]?=A3 (.cells #[.int .i64 po,.int .i64 pf,.slice psa psn psc,.int .i64 pa,.int .i64 pb,.slice pka pkn pkc,.int .i64 pn,.bool pz] 141 (0,0))/\wr.heap[w.heap.size]?=A3 (.cells Qr.zeroP 141 (0,0))/\Aa w.heap.size w wr) (fun _ w=>Qr.ms w1.heap.size toks.length w)
 case atStart =>
  exact ymq
 case round =>
  obtain⟨m,acc,T,po,pf,pa,pb,psa,psn,psc,pka,pkn,pkc,pn,pz,hm,hGS,hHD,hown,hnP,hP,hR,hb⟩:=hrel;have hTl:=hHD.1;have hPl:=(Array.getElem?_eq_some_iff.1 hP).1;have hwr:=zpc;have hms:=Qr.ms_of (N:=toks.length) hP;obtain⟨va,vc,rfl,hka⟩:=hHD.ka hown;have hownb:=zbf;have HOW:=J hownb;clear hownb;have HMS:=J hms;clear hms;have HNP:=J hnP;clear hnP;have HPB:=J hP;have HRB:=J hR;clear hP hR hka;obtain⟨x0,x1,x2,x3,x4,x5,x6,x7,-⟩:=Tx.c8 HPB.out;rcases hGS.out with⟨rfl,hXn⟩ | ⟨rfl,q,r1,hs1,hpn,hmr,hXq,hHd,hnd⟩
  ·have HXN:=J hXn;clear hXn;obtain⟨z0,z1,z2,z3,z4,z5,z6,z7,zf⟩:=Tx.c8 HRB.out;go_wp2;exact Aw (v:=.agg #[.int .i64 0,.int .i64 0,.slice A0 0 0,.int .i64 0,.int .i64 0,.slice A0 0 0,.int .i64 0,.bool false]) YD rfl YJ
  ·obtain⟨k,hk⟩:=znu;subst hk;have hs1l:=hs1.length_le;obtain⟨A1,hA1⟩:∃ A,toks.length - r1.length=A:=⟨_,rfl⟩;rw[hA1]at hpn;subst hpn;have hA1l:A1<=toks.length:=oQ;obtain⟨c0,c1,c2⟩:=HH.out.at_ r1 hs1;rw[hA1]at c0 c1 c2;have hlegc:=HH.out.leg hs1;have hop:=fun w=>r21_op_c (AT r1) hlegc F2 w;have hst:=fun w=>r21_starts_c (AT r1) hlegc w;rw[Qr.beg_lk]at hst;obtain⟨CX,hCX⟩:=zks;obtain⟨CK,hCK⟩:∃ K,Qr.kR (AT r1).k=K:=⟨_,rfl⟩;obtain⟨CG,hCG⟩:∃ K,(AT r1).g=K:=⟨_,rfl⟩;rw[hCX,hCK,hCG]at hop hst;rw[hCX]at c1;rw[hCK]at c0;rw[hCG]at c2;have hOP:∀ w,Af A8 206 #[.agg #[.int .i64 CK,.string CX,.bool CG],.string ⟨#[65,78,68]⟩] w fun e w'=>e=.returned (.bool (E6 F2 r1))/\Aa w.heap.size w w':=hop;have C0:=J c0;have C1:=J c1;have C2:=J c2;have HA1:=J hA1;have HD1:=J hHd;have HDD:=J hHD;clear c0 c1 c2 hCX hCK hCG hop hHd hHD hlegc hGS
   have hTb:T.length<=100000:=by
    rw[hTl];have:=Qr.ks_nodes acc;omega
   by_cases hi:E6 F2 r1=true
   ·rw[hi]at hOP;have hte:=zmg;have hta:=Qr.tail_at hs1 (Qr.isOp_ne hi);have hsub:=zhj;obtain⟨xs,hxs⟩:∃ x,EJ false k r1.tail=x:=⟨_,rfl⟩;rw[hxs]at hsub;have hes:=(DO false k).2.2.2.2.1 r1.tail;have hns:=(Ex false k).2.2.2.2.1 r1.tail;rw[hxs]at hes hns;rw[hta,hA1,show ((A1+1:Nat):Int)=(A1:Int)+1 by omega]at hsub;have hA1s:=zjn;have HXS:Hid (X=Qr.next xs (fun q2 r2=>Fw false k (acc++[q]++[q2]) r2)):=J (by rw[<- hXq,Fw,if_pos hi,hxs];rfl);have HRS:=zhw;have HOP:=J hOP;have HS:=J hsub;have HES:=J hes;have HNS:=J hns;clear hOP hst hsub hes hns hxs hXq hta hte hi hA1
    go_wp2_with (first
     |(at_builtin;go_must (refine wpList_append_sl rfl _ _ 27 rfl (w.heap.size+1) 29 i0 _ 6 80 DG HI.out hz0 hz1 hz2 rfl oX _ T.length _ rfl (hown.alloc _) (A3 ⟨_,0,A0⟩) 1 1 [.int .i64 po,.int .i64 pf,.slice psa psn psc,.int .i64 pa,.int .i64 pb,.slice pka pkn pkc] rfl rfl oF oD oG oK oQ oW ?_);intro v' w7 hown7 hg7 hnil7;have s7:=hg7.size;rw[An]at s7;have ewr:=zai;have kP7:=zaj;have kR7:=zx;have k7:=zaa;have KP7:=J kP7;have KR7:=J kR7;clear kP7 kR7;obtain⟨-,-,-,-,-,-,y6,-⟩:=Tx.c7 KP7.out;have d0:=zof;have d1:=zog;have d2:=zoh)
     |(go_at_call 265;(with_reducible refine (HS.out w8 (HH.out.below k8)).mono ?_);rintro e wS hh;obtain⟨uo,uf,ua,ub,usa,usn,usc,uka,ukn,ukc,un,uz,rfl,hbS⟩:=hh.vals;have HHS:=zpp;clear hh;have kS:=Ac k8 hbS;have sS:=hbS.size;have KPS:=J (A6 KP8.out hbS);have KRS:=J (A6 KR8.out hbS);obtain⟨u0_0,u0_1,u0_2,u0_3,u0_4,u0_5,u0_6,u0_7,uf0⟩:=Tx.c8 KPS.out)
     |(go_at_call 206;(with_reducible refine (HOP.out w7).mono ?_);rintro e w8 ⟨rfl,hb8⟩;have k8:=Ac k7 hb8;have s8:=hb8.size;have KP8:=zhd;have KR8:=zhe;obtain⟨-,-,-,-,-,-,y6_8,-⟩:=Tx.c7 KP8.out;have d0_8:=zoi;have d1_8:=zoj;have d2_8:=zok))
    have hHD7:=zh;have hown8:=zg
    have hnP7:v'.ownBlock≠A3 w1.heap.size:=fun e=>by
     exact yhj
    have hlt7:=zge
    have hGN:Qr.GS toks r (w.heap.size+1) w1.heap.size wS v'.ownBlock X (Fw false) 6 k (acc++[q]) (⟨uo,uf,usa,usn,usc,ua,ub,uka,ukn,ukc⟩:G0) un uz/\(uz=true->A1<un.toNat/\un.toNat<=toks.length):=by
     exact yyh
    exact yhn
   ·have hi':E6 F2 r1=false:=by simpa using hi
    rw[hi']at hOP;by_cases hg:Qr.begins r1=true
    ·rw[hg]at hst;have hsub:=fun w h=>HSUB.out k r1 w oQ oQ hs1 h;obtain⟨xs,hxs⟩:∃ x,EJ false k r1=x:=⟨_,rfl⟩;rw[hxs]at hsub;have hes:=(DO false k).2.2.2.2.1 r1;have hns:=(Ex false k).2.2.2.2.1 r1;rw[hxs]at hes hns;rw[hA1]at hsub;have HXS:Hid (X=Qr.next xs (fun q2 r2=>Fw false k (acc++[q]++[q2]) r2)):=J (by rw[<- hXq,Fw,if_neg hi,if_pos hg,hxs];rfl);have HRS:Hid (r1 <:+ toks/\r1.length+0<=r1.length):=J ⟨hs1,Ad _⟩;have HOP:=J hOP;have HST:=J hst;have HS:=J hsub;have HES:=J hes;have HNS:=J hns;clear hOP hst hsub hes hns hxs hXq hi hi' hg hA1
     go_wp2_with (first
      |(at_builtin;go_must (refine wpList_append_sl rfl _ _ 27 rfl (w.heap.size+1) 29 i0 _ 6 80 DG HI.out hz0 hz1 hz2 rfl oX _ T.length _ rfl (hown.alloc _) (A3 ⟨_,0,A0⟩) 1 1 [.int .i64 po,.int .i64 pf,.slice psa psn psc,.int .i64 pa,.int .i64 pb,.slice pka pkn pkc] rfl rfl oF oD oG oK oQ oW ?_);intro v' w7 hown7 hg7 hnil7;have s7:=hg7.size;rw[An]at s7;have ewr:=zai;have kP7:=zaj;have kR7:=zx;have k7:=zaa;have KP7:=J kP7;have KR7:=J kR7;clear kP7 kR7;obtain⟨-,-,-,-,-,-,y6,-⟩:=Tx.c7 KP7.out;have d0:=zof;have d1:=zog;have d2:=zoh)
      |(go_at_call 265;(with_reducible refine (HS.out w9 (HH.out.below k9)).mono ?_);rintro e wS hh;obtain⟨uo,uf,ua,ub,usa,usn,usc,uka,ukn,ukc,un,uz,rfl,hbS⟩:=hh.vals;have HHS:=zpp;clear hh;have kS:=Ac k9 hbS;have sS:=hbS.size;have KPS:=J (A6 KP9.out hbS);have KRS:=J (A6 KR9.out hbS);obtain⟨u0_0,u0_1,u0_2,u0_3,u0_4,u0_5,u0_6,u0_7,uf0⟩:=Tx.c8 KPS.out)
      |(go_at_call 266;(with_reducible refine (HST.out w8).mono ?_);rintro e w9 ⟨rfl,hb9⟩;have k9:=Ac k8 hb9;have s9:=hb9.size;have KP9:=J (A6 KP8.out hb9);have KR9:=J (A6 KR8.out hb9);obtain⟨-,-,-,-,-,-,y6_9,-⟩:=Tx.c7 KP9.out)
      |(go_at_call 206;(with_reducible refine (HOP.out w7).mono ?_);rintro e w8 ⟨rfl,hb8⟩;have k8:=Ac k7 hb8;have s8:=hb8.size;have KP8:=zhd;have KR8:=zhe;obtain⟨-,-,-,-,-,-,y6_8,-⟩:=Tx.c7 KP8.out;have d0_8:=zoi;have d1_8:=zoj;have d2_8:=zok))
     have hHD7:=zh;have hown8:=zg
     have hnP7:v'.ownBlock≠A3 w1.heap.size:=fun e=>by
      exact yhj
     have hlt7:=zge
     have hGN:Qr.GS toks r (w.heap.size+1) w1.heap.size wS v'.ownBlock X (Fw false) 6 k (acc++[q]) (⟨uo,uf,usa,usn,usc,ua,ub,uka,ukn,ukc⟩:G0) un uz/\(uz=true->A1<un.toNat/\un.toNat<=toks.length):=by
      rcases HHS.out.two with⟨rfl,hx⟩ | ⟨rfl,q2,r2,hx,hun,hq⟩
      ·exact⟨.inl ⟨rfl,by rw[HXS.out,hx];rfl⟩,fun h9=>by cases h9⟩
      ·have hea:=HES.out q2 r2 hx;have hnn:=HNS.out q2 r2 hx;have hl2:=(hea.1.trans HRS.out.1).length_le;have hl3:=HRS.out.2;have hea2:=hea.2;refine⟨.inr ⟨rfl,q2,r2,hea.1.trans HRS.out.1,hun,oQ,by rw[HXS.out,hx];rfl,⟨_,wS,hq,Qr.Kp.refl _ _,fun b hb=>.inl (by have:=hlt7 b hb;omega),.inl oQ,by have:=k9.size;omega⟩,?_⟩,fun _=>?_⟩
       ·exact yhh
       ·have:=HA1.out;omega
     have hHDS:=hHD7.map (fun k t hd=>(((hd.later hb8).later hb9).later hbS).put8 (.int .i64 uo) (.int .i64 uf) (.slice usa usn usc) (.int .i64 ua) (.int .i64 ub) (.slice uka ukn ukc) (.int .i64 un) (.bool uz));have hownS:=Qr.own_put8 (B4 (B4 (B4 hown8 hb8) hb9) hbS) hnP7 (.int .i64 uo) (.int .i64 uf) (.slice usa usn usc) (.int .i64 ua) (.int .i64 ub) (.slice uka ukn ukc) (.int .i64 un) (.bool uz);exact yk1
    ·have hg':Qr.begins r1=false:=by simpa using hg
     rw[hg']at hst;have HXJ:Hid (X=A3 (GI 5 (acc++[q]),r1)):=J (by rw[<- hXq,Fw,if_neg hi,if_neg hg]);have HOP:=J hOP;have HST:=J hst;clear hOP hst hXq hi hi' hg hg' hA1
     go_wp2_with (first
      |(at_builtin;go_must (refine wpList_append_sl rfl _ _ 27 rfl (w.heap.size+1) 29 i0 _ 6 80 DG HI.out hz0 hz1 hz2 rfl oX _ T.length _ rfl (hown.alloc _) (A3 ⟨_,0,A0⟩) 1 1 [.int .i64 po,.int .i64 pf,.slice psa psn psc,.int .i64 pa,.int .i64 pb,.slice pka pkn pkc] rfl rfl oF oD oG oK oQ oW ?_);intro v' w7 hown7 hg7 hnil7;have s7:=hg7.size;rw[An]at s7;have ewr:=zai;have kP7:=zaj;have kR7:=zx;have k7:=zaa;have KP7:=J kP7;have KR7:=J kR7;clear kP7 kR7;obtain⟨-,-,-,-,-,-,y6,-⟩:=Tx.c7 KP7.out;have d0:=zof;have d1:=zog;have d2:=zoh)
      |(go_at_call 266;(with_reducible refine (HST.out w8).mono ?_);rintro e w9 ⟨rfl,hb9⟩;have k9:=Ac k8 hb9;have s9:=hb9.size;have KP9:=J (A6 KP8.out hb9);have KR9:=J (A6 KR8.out hb9);obtain⟨-,-,-,-,-,-,y6_9,-⟩:=Tx.c7 KP9.out)
      |(go_at_call 206;(with_reducible refine (HOP.out w7).mono ?_);rintro e w8 ⟨rfl,hb8⟩;have k8:=Ac k7 hb8;have s8:=hb8.size;have KP8:=zhd;have KR8:=zhe;obtain⟨-,-,-,-,-,-,y6_8,-⟩:=Tx.c7 KP8.out;have d0_8:=zoi;have d1_8:=zoj;have d2_8:=zok))
     have hHD7:=zh;have hown8:=zg;obtain⟨va7,vc7,hv7,hka7⟩:=hHD7.ka hown8;rw[show (acc++[q]).length=acc.length+1 by simp]at hv7;subst hv7;have hka8:=(hka7.below hb8).below hb9;have hkad:=hka8.below ((Below.refl w9.heap.size w9).drew);have hnl:=zim;have hjl:(acc++[q]).length=acc.length+1:=oZ;have HKA:=J hkad;clear hka7 hka8 hkad hHD7 hown8 hown7;have JC:Hid (Af A8 207 #[.int .i64 5,.slice va7 (acc.length+1) vc7] w9.drew fun e w'=>∃ t,e=.returned (.agg (Bb t).toArray)/\D6 (w.heap.size+1) w' (GI 5 (acc++[q])) (Bb t)/\Aa w9.drew.heap.size w9.drew w'):=J (by have h9:=r21_joined_c (w.heap.size+1) 5 (acc++[q]) va7 vc7 w9.drew HKA.out hnl (by have:=k9.size;show w.heap.size+1<=w9.heap.size;omega);rw[hjl]at h9;exact h9);go_region_with (go_at_call 207;(with_reducible refine JC.out.mono ?_);rintro e wJ ⟨⟨uo,uf,usa,usn,usc,ua,ub,uka,ukn,ukc⟩,rfl,hqJ,hbJ⟩;have hbJ':Aa w9.heap.size w9 wJ:=((Below.refl _ _).drew).trans hbJ;have kJ:=Ac k9 hbJ';have KRJ:=J (A6 KR9.out hbJ');have KPJ:=J (A6 KP9.out hbJ');obtain⟨-,-,-,-,-,-,y6_J,-⟩:=Tx.c7 KPJ.out;obtain⟨z0,z1,z2,z3,z4,z5,z6,z7,zf⟩:=Tx.c8 KRJ.out)
     all_goals
      go_wp2;exact Aw (v:=.agg #[.int .i64 uo,.int .i64 uf,.slice usa usn usc,.int .i64 ua,.int .i64 ub,.slice uka ukn ukc,.int .i64 (A1:Int),.bool true]) YD rfl UB
theorem r21_or_c (toks:List AM) (b o c n:Nat) (hSub:∀ (m:Nat) (r:List AM) (w:Ab),m<=n->8*r.length+6<=m->r <:+ toks->CS w toks b o c->Af A8 205 #[.slice (A3 ⟨b,o,A0⟩) (toks.length+1) c,.int .i64 ((toks.length - r.length:Nat):Int)] w (BV toks (GX false m r) w))
  (r:List AM) (w:Ab) (hn:8*r.length+7<=n+1) (hr:r <:+ toks) (h:CS w toks b o c) :
  Af A8 124 #[.slice (A3 ⟨b,o,A0⟩) (toks.length+1) c,.int .i64 ((toks.length - r.length:Nat):Int)] w (BV toks (DN false (n+1) r) w):=by
 obtain⟨i0,hi0,hz0,hz1,hz2⟩:=zms;have HI:=J hi0;clear hi0;have hlen:=h.len;have hbl:=h.lt;have hcap:=h.cap;have hmax:=h.max;have hmx:maxLen=9223372036854775807:=rfl;have hrl:=hr.length_le;have HH:=zkq;obtain⟨x0,hx0⟩:∃ x,GX false n r=x:=⟨_,rfl⟩;have h0:=znr;rw[hx0]at h0;have he0:=(DO false n).2.2.1 r;have hb0:=(Ex false n).2.2.1 r;rw[hx0]at he0 hb0;obtain⟨X,hX⟩:∃ X,DN false (n+1) r=X:=⟨_,rfl⟩;have hXe:X=Qr.next x0 (fun q r'=>Jt false n [q] r'):=by rw[<- hX,DN,hx0];rfl
 rw[hX];obtain⟨A,hA⟩:=zu;rw[hA]at h0 ⊢;have HS0:=J h0;have HE0:=J he0;have HB0:=J hb0;have HX0:=J hXe;have HSUB:=J hSub;clear h0 he0 hb0 hXe hX hx0 hA hSub h;obtain⟨W,hW⟩:=zbo;have hB:=zi;have hs1:=zv;have KR:=zn;have HS1:=J hs1;clear hs1;have hB1:=zkr;go_enter Tryz.func124,Tryz.ntmps124;go_wp2_with (go_at_call 205;(with_reducible refine (HS0.out _ (HH.out.below hB1)).mono ?_);rintro e w1 hh;obtain⟨po,pf,pa,pb,psa,psn,psc,pka,pkn,pkc,pn,pz,rfl,hb1⟩:=hh.vals;have HHR:=zpp;clear hh);have s1:=hb1.size;rw[An]at s1;have hk1:Aa w.heap.size w w1:=Ac hB1 hb1;have kR1:=zka;have KR1:=J kR1;clear kR1;clear hW;go_loopw [5] (fun v wr=>∃ (m:Nat) (acc:List Cq) (T:List G0) (po pf pa pb:Int) (psa:Option Addr) (psn psc:Nat) (pka:Option Addr) (pkn pkc:Nat) (pn:Int) (pz:Bool),m<=n/\Hid (Qr.GS toks r (w.heap.size+1) w1.heap.size wr v.ownBlock X (Jt false) 7 m acc (⟨po,pf,psa,psn,psc,pa,pb,pka,pkn,pkc⟩:G0) pn pz)/\Qr.HD (w.heap.size+1) w1.heap.size wr v.ownBlock acc T/\wr.ownsRow (w.heap.size+1) 29 6 v T.length (T.flatMap Bb)/\v.ownBlock≠A3 w1.heap.size/\wr.heap[w1.heap.size]?=A3 (.cells #[.int .i64 po,.int .i64 pf,.slice psa psn psc,.int .i64 pa,.int .i64 pb,.slice pka pkn pkc,.int .i64 pn,.bool pz] 141 (0,0))/\wr.heap[w.heap.size]?=A3 (.cells Qr.zeroP 141 (0,0))/\Aa w.heap.size w wr) (fun _ w=>Qr.ms w1.heap.size toks.length w)
 case atStart =>
  exact ymq
 case round =>
  obtain⟨m,acc,T,po,pf,pa,pb,psa,psn,psc,pka,pkn,pkc,pn,pz,hm,hGS,hHD,hown,hnP,hP,hR,hb⟩:=hrel;have hTl:=hHD.1;have hPl:=(Array.getElem?_eq_some_iff.1 hP).1;have hwr:=zpc;have hms:=Qr.ms_of (N:=toks.length) hP;obtain⟨va,vc,rfl,hka⟩:=hHD.ka hown;have hownb:=zbf;have HOW:=J hownb;clear hownb;have HMS:=J hms;clear hms;have HNP:=J hnP;clear hnP;have HPB:=J hP;have HRB:=J hR;clear hP hR hka;obtain⟨x0,x1,x2,x3,x4,x5,x6,x7,-⟩:=Tx.c8 HPB.out;rcases hGS.out with⟨rfl,hXn⟩ | ⟨rfl,q,r1,hs1,hpn,hmr,hXq,hHd,hnd⟩
  ·have HXN:=J hXn;clear hXn;obtain⟨z0,z1,z2,z3,z4,z5,z6,z7,zf⟩:=Tx.c8 HRB.out;go_wp2;exact Aw (v:=.agg #[.int .i64 0,.int .i64 0,.slice A0 0 0,.int .i64 0,.int .i64 0,.slice A0 0 0,.int .i64 0,.bool false]) YF rfl YJ
  ·obtain⟨k,hk⟩:=znu;subst hk;have hs1l:=hs1.length_le;obtain⟨A1,hA1⟩:∃ A,toks.length - r1.length=A:=⟨_,rfl⟩;rw[hA1]at hpn;subst hpn;have hA1l:A1<=toks.length:=oQ;obtain⟨c0,c1,c2⟩:=HH.out.at_ r1 hs1;rw[hA1]at c0 c1 c2;have hlegc:=HH.out.leg hs1;have hop:=fun w=>r21_op_c (AT r1) hlegc Io w;have hst:=fun w=>r21_starts_c (AT r1) hlegc w;rw[Qr.beg_lk]at hst;obtain⟨CX,hCX⟩:=zks;obtain⟨CK,hCK⟩:∃ K,Qr.kR (AT r1).k=K:=⟨_,rfl⟩;obtain⟨CG,hCG⟩:∃ K,(AT r1).g=K:=⟨_,rfl⟩;rw[hCX,hCK,hCG]at hop hst;rw[hCX]at c1;rw[hCK]at c0;rw[hCG]at c2;have hOP:∀ w,Af A8 206 #[.agg #[.int .i64 CK,.string CX,.bool CG],.string ⟨#[79,82]⟩] w fun e w'=>e=.returned (.bool (E6 Io r1))/\Aa w.heap.size w w':=hop;have C0:=J c0;have C1:=J c1;have C2:=J c2;have HA1:=J hA1;have HD1:=J hHd;have HDD:=J hHD;clear c0 c1 c2 hCX hCK hCG hop hHd hHD hlegc hGS
   have hTb:T.length<=100000:=by
    rw[hTl];have:=Qr.ks_nodes acc;omega
   by_cases hi:E6 Io r1=true
   ·rw[hi]at hOP;have hte:=zmg;have hta:=Qr.tail_at hs1 (Qr.isOp_ne hi);have hsub:=zhj;obtain⟨xs,hxs⟩:∃ x,GX false k r1.tail=x:=⟨_,rfl⟩;rw[hxs]at hsub;have hes:=(DO false k).2.2.1 r1.tail;have hns:=(Ex false k).2.2.1 r1.tail;rw[hxs]at hes hns;rw[hta,hA1,show ((A1+1:Nat):Int)=(A1:Int)+1 by omega]at hsub;have hA1s:=zjn;have HXS:Hid (X=Qr.next xs (fun q2 r2=>Jt false k (acc++[q]++[q2]) r2)):=J (by rw[<- hXq,Jt,if_pos hi,hxs];rfl);have HRS:=zhw;have HOP:=J hOP;have HS:=J hsub;have HES:=J hes;have HNS:=J hns;clear hOP hst hsub hes hns hxs hXq hta hte hi hA1
    go_wp2_with (first
     |(at_builtin;go_must (refine wpList_append_sl rfl _ _ 27 rfl (w.heap.size+1) 29 i0 _ 6 80 DG HI.out hz0 hz1 hz2 rfl oX _ T.length _ rfl (hown.alloc _) (A3 ⟨_,0,A0⟩) 1 1 [.int .i64 po,.int .i64 pf,.slice psa psn psc,.int .i64 pa,.int .i64 pb,.slice pka pkn pkc] rfl rfl oF oD oG oK oQ oW ?_);intro v' w7 hown7 hg7 hnil7;have s7:=hg7.size;rw[An]at s7;have ewr:=zai;have kP7:=zaj;have kR7:=zx;have k7:=zaa;have KP7:=J kP7;have KR7:=J kR7;clear kP7 kR7;obtain⟨-,-,-,-,-,-,y6,-⟩:=Tx.c7 KP7.out;have d0:=zof;have d1:=zog;have d2:=zoh)
     |(go_at_call 205;(with_reducible refine (HS.out w8 (HH.out.below k8)).mono ?_);rintro e wS hh;obtain⟨uo,uf,ua,ub,usa,usn,usc,uka,ukn,ukc,un,uz,rfl,hbS⟩:=hh.vals;have HHS:=zpp;clear hh;have kS:=Ac k8 hbS;have sS:=hbS.size;have KPS:=J (A6 KP8.out hbS);have KRS:=J (A6 KR8.out hbS);obtain⟨u0_0,u0_1,u0_2,u0_3,u0_4,u0_5,u0_6,u0_7,uf0⟩:=Tx.c8 KPS.out)
     |(go_at_call 206;(with_reducible refine (HOP.out w7).mono ?_);rintro e w8 ⟨rfl,hb8⟩;have k8:=Ac k7 hb8;have s8:=hb8.size;have KP8:=zhd;have KR8:=zhe;obtain⟨-,-,-,-,-,-,y6_8,-⟩:=Tx.c7 KP8.out;have d0_8:=zoi;have d1_8:=zoj;have d2_8:=zok))
    have hHD7:=zh;have hown8:=zg
    have hnP7:v'.ownBlock≠A3 w1.heap.size:=fun e=>by
     exact yhj
    have hlt7:=zge
    have hGN:Qr.GS toks r (w.heap.size+1) w1.heap.size wS v'.ownBlock X (Jt false) 7 k (acc++[q]) (⟨uo,uf,usa,usn,usc,ua,ub,uka,ukn,ukc⟩:G0) un uz/\(uz=true->A1<un.toNat/\un.toNat<=toks.length):=by
     exact yyh
    exact yhn
   ·have hi':E6 Io r1=false:=by simpa using hi
    rw[hi']at hOP;have HXJ:Hid (X=A3 (GI 6 (acc++[q]),r1)):=J (by rw[<- hXq,Jt,if_neg hi]);have HOP:=J hOP;have HST:=J hst;clear hOP hst hXq hi hi' hA1
    go_wp2_with (first
     |(at_builtin;go_must (refine wpList_append_sl rfl _ _ 27 rfl (w.heap.size+1) 29 i0 _ 6 80 DG HI.out hz0 hz1 hz2 rfl oX _ T.length _ rfl (hown.alloc _) (A3 ⟨_,0,A0⟩) 1 1 [.int .i64 po,.int .i64 pf,.slice psa psn psc,.int .i64 pa,.int .i64 pb,.slice pka pkn pkc] rfl rfl oF oD oG oK oQ oW ?_);intro v' w7 hown7 hg7 hnil7;have s7:=hg7.size;rw[An]at s7;have ewr:=zai;have kP7:=zaj;have kR7:=zx;have k7:=zaa;have KP7:=J kP7;have KR7:=J kR7;clear kP7 kR7;obtain⟨-,-,-,-,-,-,y6,-⟩:=Tx.c7 KP7.out;have d0:=zof;have d1:=zog;have d2:=zoh)
     |(go_at_call 206;(with_reducible refine (HOP.out w7).mono ?_);rintro e w8 ⟨rfl,hb8⟩;have k8:=Ac k7 hb8;have s8:=hb8.size;have KP8:=zhd;have KR8:=zhe;obtain⟨-,-,-,-,-,-,y6_8,-⟩:=Tx.c7 KP8.out;have d0_8:=zoi;have d1_8:=zoj;have d2_8:=zok))
    have hHD7:=zh;have hown8:=zg;obtain⟨va7,vc7,hv7,hka7⟩:=hHD7.ka hown8;rw[show (acc++[q]).length=acc.length+1 by simp]at hv7;subst hv7;have hka8:=(hka7.below hb8);have hkad:=hka8.below ((Below.refl w8.heap.size w8).drew);have hnl:=zim;have hjl:(acc++[q]).length=acc.length+1:=oZ;have HKA:=J hkad;clear hka7 hka8 hkad hHD7 hown8 hown7;have JC:Hid (Af A8 207 #[.int .i64 6,.slice va7 (acc.length+1) vc7] w8.drew fun e w'=>∃ t,e=.returned (.agg (Bb t).toArray)/\D6 (w.heap.size+1) w' (GI 6 (acc++[q])) (Bb t)/\Aa w8.drew.heap.size w8.drew w'):=J (by have h9:=r21_joined_c (w.heap.size+1) 6 (acc++[q]) va7 vc7 w8.drew HKA.out hnl (by have:=k8.size;show w.heap.size+1<=w8.heap.size;omega);rw[hjl]at h9;exact h9);go_region_with (go_at_call 207;(with_reducible refine JC.out.mono ?_);rintro e wJ ⟨⟨uo,uf,usa,usn,usc,ua,ub,uka,ukn,ukc⟩,rfl,hqJ,hbJ⟩;have hbJ':Aa w8.heap.size w8 wJ:=((Below.refl _ _).drew).trans hbJ;have kJ:=Ac k8 hbJ';have KRJ:=J (A6 KR8.out hbJ');have KPJ:=J (A6 KP8.out hbJ');obtain⟨-,-,-,-,-,-,y6_J,-⟩:=Tx.c7 KPJ.out;obtain⟨z0,z1,z2,z3,z4,z5,z6,z7,zf⟩:=Tx.c8 KRJ.out)
    all_goals
     go_wp2;exact Aw (v:=.agg #[.int .i64 uo,.int .i64 uf,.slice usa usn usc,.int .i64 ua,.int .i64 ub,.slice uka ukn ukc,.int .i64 (A1:Int),.bool true]) YF rfl UB
theorem r21_readers (toks:List AM) (b o c:Nat):∀ n:Nat,
  (∀ (m:Nat) (r:List AM) (w:Ab),m<=n->8*r.length+7<=m->r <:+ toks->CS w toks b o c->Af A8 124 #[.slice (A3 ⟨b,o,A0⟩) (toks.length+1) c,.int .i64 ((toks.length - r.length:Nat):Int)] w (BV toks (DN false m r) w)) /\
  (∀ (m:Nat) (r:List AM) (w:Ab),m<=n->8*r.length+6<=m->r <:+ toks->CS w toks b o c->Af A8 205 #[.slice (A3 ⟨b,o,A0⟩) (toks.length+1) c,.int .i64 ((toks.length - r.length:Nat):Int)] w (BV toks (GX false m r) w)) /\
  (∀ (m:Nat) (r:List AM) (w:Ab),m<=n->8*r.length+5<=m->r <:+ toks->CS w toks b o c->Af A8 265 #[.slice (A3 ⟨b,o,A0⟩) (toks.length+1) c,.int .i64 ((toks.length - r.length:Nat):Int)] w (BV toks (EJ false m r) w)) /\
  (∀ (m:Nat) (r:List AM) (w:Ab),m<=n->8*r.length+4<=m->r <:+ toks->CS w toks b o c->Af A8 291 #[.slice (A3 ⟨b,o,A0⟩) (toks.length+1) c,.int .i64 ((toks.length - r.length:Nat):Int)] w (BV toks (Qr.pPrim false m r) w))
 | 0=>⟨fun m r w h1 h2 _ _=>oQ,fun m r w h1 h2 _ _=>oQ,fun m r w h1 h2 _ _=>oQ,fun m r w h1 h2 _ _=>oQ⟩
 | n+1=>by
  obtain⟨h1,h2,h3,h4⟩:=r21_readers toks b o c n;refine⟨fun m r w hm hn hr hP=>?_,fun m r w hm hn hr hP=>?_,fun m r w hm hn hr hP=>?_,fun m r w hm hn hr hP=>?_⟩
  ·by_cases hle:m<=n
   ·exact h1 m r w hle hn hr hP
   ·obtain rfl:m=n+1:=oQ;exact r21_or_c toks b o c n h2 r w hn hr hP
  ·by_cases hle:m<=n
   ·exact h2 m r w hle hn hr hP
   ·obtain rfl:m=n+1:=oQ;exact r21_and_c toks b o c n h3 r w hn hr hP
  ·by_cases hle:m<=n
   ·exact h3 m r w hle hn hr hP
   ·obtain rfl:m=n+1:=oQ;exact r21_not_c toks b o c n (fun r w h hr hP=>h4 n r w (Ad _) h hr hP) r w hn hr hP
  ·by_cases hle:m<=n
   ·exact h4 m r w hle hn hr hP
   ·obtain rfl:m=n+1:=oQ;exact r21_prim_c toks r b o c n w hP hr (fun r w h hr hP=>h1 n r w (Ad _) h hr hP) hn
theorem info_rtok:(A8.info? 144).map (fun i=>(i.zero,i.size,i.bytes))=A3 (A3 (.agg #[.int .i64 0,.string ⟨#[]⟩,.bool false]),3,32):=by kernel_rfl
namespace Qr
abbrev encR (t:Tok):List Value:=[.int .i64 (kR t.k),.string ⟨(tx t).toArray⟩,.bool t.g]
def sg (c:UInt8):Bool:=c == 40||c == 41||c == 58||c == 42
theorem sgn_sg (c:UInt8):sgn c=(c == 32||c == 34||sg c):=by
 unfold sgn sg;cases c == 32 <;> cases c == 34 <;> cases c == 40 <;> cases c == 41 <;> cases c == 58 <;> cases c == 42 <;> rfl
theorem encR_sign (c:UInt8) (g:Bool) (h:sg c=true):encR ⟨c,[],g⟩=[.int .i64 3,.string ⟨#[c]⟩,.bool g]:=by
 unfold sg at h;simp only[DS,beq_iff_eq]at h;rcases h with ((h | h) | h) | h <;> subst h <;> rfl
theorem sg_iff {c:UInt8}:sg c=true↔(c=40\/c=41\/c=58\/c=42):=by
 unfold sg;simp only[DS,beq_iff_eq];constructor
 ·rintro (((h | h) | h) | h)
  ·exact .inl h
  ·exact .inr (.inl h)
  ·exact .inr (.inr (.inl h))
  ·exact .inr (.inr (.inr h))
 ·rintro (h | h | h | h)
  ·exact .inl (.inl (.inl h))
  ·exact .inl (.inl (.inr h))
  ·exact .inl (.inr h)
  ·exact .inr h
theorem any34 {out r l:List Tok}{g:Bool} (h:out++(⟨34,[],g⟩::r)=l):l.any (fun t=>t.k == 34)=true:=by
 subst h;simp
theorem any34_not {l:List Tok} (h:∀ t∈l,t.k≠34):l.any (fun t=>t.k == 34)=false:=by
 rw[List.any_eq_false];intro t ht;simpa using h t ht
end Qr
theorem y6j (h:P:=by
 go_enter Tryz.func204,Tryz.ntmps204;go_wp2;go_ret;exact⟨rfl,rfl⟩):P:=h
theorem r21_sign_c (c:UInt8) (w:Ab) :
  Af A8 204 #[.int .u8 (c.toNat:Int)] w fun e w'=>e=.returned (.bool (Qr.sg c))/\w'=w:=by
 by_cases h1:c=40
 ·subst h1;exact y6j
 ·have n40:((c.toNat:Int) == 40)=false:=beq_eq_false_iff_ne.2 (Il (n:=40) oX h1);by_cases h2:c=41
  ·subst h2;exact y6j
  ·have n41:((c.toNat:Int) == 41)=false:=beq_eq_false_iff_ne.2 (Il (n:=41) oX h2);by_cases h3:c=58
   ·subst h3;exact y6j
   ·have n58:((c.toNat:Int) == 58)=false:=beq_eq_false_iff_ne.2 (Il (n:=58) oX h3);by_cases h4:c=42
    ·subst h4;exact y6j
    ·have n42:((c.toNat:Int) == 42)=false:=beq_eq_false_iff_ne.2 (Il (n:=42) oX h4)
     have hsg:Qr.sg c=false:=by
      unfold Qr.sg;simp only[E9,beq_eq_false_iff_ne];exact⟨⟨⟨h1,h2⟩,h3⟩,h4⟩
     rw[hsg];exact y6j
namespace Qr
def TokRes (l:List Tok) (w:Ab) (e:Ending) (w':Ab):Prop :=
 (l.any (fun t=>t.k == 34)=true/\e=.returned (.tuple #[.slice A0 0 0,.bool false])/\Aa w.heap.size w w') \/
 (l.any (fun t=>t.k == 34)=false/\(∃ v,e=.returned (.tuple #[v,.bool true])/\w'.ownsRow w.heap.size 144 3 v (l.length+1) (l.flatMap encR++[.int .i64 0,.string ⟨#[]⟩,.bool false]))/\Aa w.heap.size w w')
end Qr
theorem yyi (h:P:=by
 go_roundw
 case rel=>exact⟨N,_,true,hN2,by go_num,rfl,HN,HCL,by rw[Ag];simp;omega,by rw[Ag,AR];have h9:=hown7;rw[<- HXE.out]at h9;exact h9,(HB8.out.alloc oQ _).grown hg7 oW (fun j hj=>(hown.lt j hj).1)⟩
 case measure=>simp[Aj];omega):P:=h
theorem yi0 (h:P:=by
 have HN:=J HOO.1;have HXE:=J HOO.2;clear HOO;have own8:=zak;have b8:=zt;have s8:=b8.size;have HO8:=J own8;have HB8:=J b8;clear own8 b8;go_wp2_with (first | (at_builtin;go_must (refine wpList_append_sl rfl _ _ 137 rfl w.heap.size 144 i0 _ 3 32 FY HI.out hz0 hz1 hz2 rfl oX _ out.length _ rfl (HO8.out.alloc _) (A3 ⟨_,0,A0⟩) 1 1 [.int .i64 1,.string (s.extract k N),.bool gl] rfl rfl oF oD oG oK oQ oW ?_);intro v' w7 hown7 hg7 hnil7));exact yyi):P:=h
theorem yjn (h:P:=by
 have HOO:=HOUT.out (fun h=>by rw[HKD.out];decide);exact yi0):P:=h
theorem r21_tokens_w (s:ByteArray) (w:Ab) (hs:s.size<=1000) :
  Af A8 123 #[.string s] w (Qr.TokRes (Bm s.data.toList) w):=by
 obtain⟨i0,hi0,hz0,hz1,hz2⟩:=info_parts info_rtok;have HI:=J hi0;clear hi0;go_enter Tryz.func123,Tryz.ntmps123;go_wp2;go_loopw [4,5,6] (fun v i gv wr=>∃ (k:Nat) (out:List AM) (gl:Bool),k<=s.size/\i=.int .i64 k/\gv=.bool gl/\Hid (out++JB gl (s.data.toList.drop k)=Bm s.data.toList)/\Hid (∀ t∈out,t.k≠34)/\out.length<=k/\wr.ownsRow w.heap.size 144 3 v out.length (out.flatMap Qr.encR)/\Aa w.heap.size w wr) (fun _ i _ _=>s.size - (Aj i).toNat)
 case atStart=>exact⟨0,[],false,Nat.zero_le _,rfl,rfl,J aD,J eZ,Nat.zero_le _,Eo (base:=w.heap.size) (e:=144) (size:=3) w #[] 0 oQ oK rfl,A9 _ _⟩
 case round =>
  obtain⟨k,out,gl,hk,rfl,rfl,hT,hcl,hol,hown,hb⟩:=hrel;have hbs:=hb.size;by_cases hlt:k<s.size
  ·have hdr:=Qr.drop_at hlt;obtain⟨c,hc⟩:=zqc;rw[hc]at hdr;have hcc:=zqd;clear hc;have HT:=J hT.out;rw[hdr]at HT;have HT2:=J HT.out;clear HT hT;have hx1:=LI s k (k+1);rw[hdr,Nat.add_sub_cancel_left,El,List.take_zero]at hx1;have HX1:=J hx1;clear hx1;have HDR:=J hdr;clear hdr;by_cases c32:c=32
   ·subst c32;have HN:=zei;go_wp2;go_roundw
    case rel=>exact⟨k+1,out,false,hlt,by go_num,rfl,HN,hcl,oQ,hown,hb⟩
    case measure=>simp[Aj];omega
   ·have n32:=zht;by_cases c34:c=34
    ·subst c34;clear c32 n32;generalize wr=wo at *;go_wp2;obtain⟨W6,hW6⟩:=zgv;have k6:=zda;have b6:=zib;have own6:=zqv;rw[<- hW6];clear hW6;have HNE:=zgg;go_loopw [7] (fun nv wr=>∃ N:Nat,k+1<=N/\N<=s.size/\nv=.int .i64 N/\Hid ((34:UInt8) ∉ (s.data.toList.drop (k+1)).take (N - (k+1)))/\wr=W6) (fun nv _=>s.size - (Aj nv).toNat)
     case atStart=>exact⟨k+1,Ad _,hlt,by go_num,J (by rw[F9];simp),rfl⟩
     case round =>
      obtain⟨N,hN1,hN2,rfl,hno,hwr⟩:=hrel;have hwr':W6=wr:=hwr.symm;clear hwr;subst hwr';obtain⟨c6,f6,l6⟩:=Tx.blk k6;obtain⟨c60,c61,c62⟩:=Tx.d3 c6;clear c6;have hw:=zcw;have hw2:=IntWalk.i64_in ((N:Int)+1) ⟨oQ,oQ⟩;have hNk:(k:Int)+1<=(N:Int):=oQ;have hNs:=zql;have hcut:(N<s.size->(s.data.toList.drop (k+1)).getD (N - (k+1)) 0=34)->Sp.cut 34 (s.data.toList.drop (k+1))=if N - (k+1)=(s.data.toList.drop (k+1)).length then A0 else A3 ((s.data.toList.drop (k+1)).take (N - (k+1)),(s.data.toList.drop (k+1)).drop (N - (k+1)+1)):=fun he=>Qr.cut_at uD hno.out (fun h=>he (by rw[Ay,<- Ao]at h;omega));have HCUT:=J hcut;clear hcut;by_cases hlt2:N<s.size
      ·have hgd:(s.data.toList.drop (k+1)).getD (N - (k+1)) 0=s[N]'hlt2:=by
        have h1:=Qr.drop_at hlt2;have h2:(s.data.toList.drop (k+1)).drop (N - (k+1))=s[N]'hlt2::s.data.toList.drop (N+1):=by rw[BQ,show k+1+(N - (k+1))=N by omega];exact h1
        rw[Bi,<- List.head?_drop,h2];rfl
       have hsn:s[N]'hlt2≠34->(34:UInt8) ∉ (s.data.toList.drop (k+1)).take (N+1 - (k+1)):=fun hne hm=>by
        have hl9:N - (k+1)<(s.data.toList.drop (k+1)).length:=by rw[Ay,<- Ao];omega
        rw[show N+1 - (k+1)=N - (k+1)+1 by omega,List.take_succ_eq_append_getElem hl9]at hm;rcases AQ.1 hm with hm | hm
        ·exact hno.out hm
        ·rw[B9]at hm;rw[Bi,List.getElem?_eq_getElem hl9]at hgd;exact hne (hgd.symm.trans hm.symm)
       obtain⟨d,hd⟩:=zrv;rw[hd]at hgd hsn;have hdd:∀ h,s[N]'h=d:=fun _=>hd;clear hd;by_cases d34:d=34
       ·subst d34;have hct:=HCUT.out (fun _=>hgd);rw[if_neg uD]at hct;have HN:Hid ((out++[⟨113,(s.data.toList.drop (k+1)).take (N - (k+1)),gl⟩])++JB true (s.data.toList.drop (N+1))=Bm s.data.toList):=J (by rw[<- HT2.out,Qr.tokF_quote gl _ hct,AW,BQ,show k+1+(N - (k+1)+1)=N+1 by omega];rfl)
        have HCL:Hid (∀ t∈out++[(⟨113,(s.data.toList.drop (k+1)).take (N - (k+1)),gl⟩:AM)],t.k≠34):=J (fun t ht=>by
         rcases AQ.1 ht with h | h
         ·exact hcl.out t h
         ·rw[B9.1 h];show (113:UInt8)≠34;decide)
        have HXE:=J (LI s (k+1) N);have hNe:((N:Int) == (s.size:Int))=false:=beq_eq_false_iff_ne.2 oQ;clear hgd hsn hct;have own8:(((W6.setCell ⟨wo.heap.size,0,A0⟩ (.int .i64 2)).setCell ⟨wo.heap.size,1,A0⟩ (.string (s.extract (k+1) N))).setCell ⟨wo.heap.size,2,A0⟩ (.bool gl)).ownsRow w.heap.size 144 3 u4 out.length (out.flatMap Qr.encR):=Ik (Ik (Ik own6 HNE.out _) HNE.out _) HNE.out _;have b8:Aa w.heap.size w (((W6.setCell ⟨wo.heap.size,0,A0⟩ (.int .i64 2)).setCell ⟨wo.heap.size,1,A0⟩ (.string (s.extract (k+1) N))).setCell ⟨wo.heap.size,2,A0⟩ (.bool gl)):=((hb.trans (b6.mono hb.size)).setCell (show w.heap.size<=wo.heap.size by omega) _).setCell (show w.heap.size<=wo.heap.size by omega) _ |>.setCell (show w.heap.size<=wo.heap.size by omega) _
        have s8:=b8.size;have HO8:=J own8;have HB8:=J b8;clear own8 b8;go_wp2_with (first | (at_builtin;go_must (refine wpList_append_sl rfl _ _ 137 rfl w.heap.size 144 i0 _ 3 32 FY HI.out hz0 hz1 hz2 rfl oX _ out.length _ rfl (HO8.out.alloc _) (A3 ⟨_,0,A0⟩) 1 1 [.int .i64 2,.string (s.extract (k+1) N),.bool gl] rfl rfl oF oD oG oK oQ oW ?_);intro v' w7 hown7 hg7 hnil7));go_roundw
        case rel=>exact⟨N+1,_,true,oQ,by go_num,rfl,HN,HCL,by rw[Ag];simp;omega,by rw[Ag,AR];have h9:=hown7;rw[<- HXE.out]at h9;exact h9,(HB8.out.alloc oQ _).grown hg7 oW (fun j hj=>(hown.lt j hj).1)⟩
        case measure=>simp[Aj];omega
       ·have n34:((d.toNat:Int) == 34)=false:=beq_eq_false_iff_ne.2 (Il (n:=34) oX d34);have n34':((d.toNat:Int) != 34)=true:=by rw[bne,n34];rfl
        have HSN:=J (hsn d34);clear hgd hsn;go_wp2;go_roundw
        case rel=>exact⟨N+1,oQ,oQ,by go_num,HSN,by first | trivial | rfl⟩
        case measure=>simp[Aj];omega
      ·have hNe:N=s.size:=oQ;have hct:=HCUT.out (fun h=>absurd h hlt2);rw[if_pos uD]at hct;have HANY:Hid ((Bm s.data.toList).any (fun t=>t.k == 34)=true):=J (by rw[<- HT2.out,Qr.tokF_open gl _ hct];exact Qr.any34 rfl);have hNe2:((N:Int) == (s.size:Int))=true:=by rw[hNe];simp
       clear hct;go_wp2;exact Aw (v:=.tuple #[.slice A0 0 0,.bool false]) zst rfl (.inl ⟨HANY.out,rfl,hb.trans (b6.mono hb.size)⟩)
    ·have n34:=zhu;obtain⟨S,hS⟩:∃ S,Qr.sg c=S:=⟨_,rfl⟩;cases S with
     | true =>
      have HN:Hid ((out++[⟨c,[],gl⟩])++JB true (s.data.toList.drop (k+1))=Bm s.data.toList):=J (by rw[<- HT2.out,Qr.tokF_sign gl _ (Qr.sg_iff.1 hS),AW];rfl);have HE:=J (Qr.encR_sign c gl hS);have HSG:=J hS
      have HCL:Hid (∀ t∈out++[⟨c,[],gl⟩],t.k≠34):=J (fun t ht=>by
       rcases AQ.1 ht with h | h
       ·exact hcl.out t h
       ·rw[B9.1 h];exact c34)
      clear c32 hS c34
      go_wp2_with (first
       |(at_builtin;go_must (refine wpList_append_sl rfl _ _ 137 rfl w.heap.size 144 i0 _ 3 32 FY HI.out hz0 hz1 hz2 rfl oX _ out.length _ rfl ((hown.alloc _).alloc _) (A3 ⟨_,0,A0⟩) 1 1 [.int .i64 3,.string (s.extract k (k+1)),.bool gl] rfl rfl oF oD oG oK oQ oW ?_);intro v' w7 hown7 hg7 hnil7)
       |(go_at_call 204;(with_reducible refine (r21_sign_c c _).mono ?_);rintro e w5 ⟨rfl,hw5⟩;have hw5':=hw5.symm;clear hw5;subst hw5';rw[HSG.out]))
      go_roundw
      case rel=>exact⟨k+1,_,true,hlt,by go_num,rfl,HN,HCL,by rw[Ag];simp;omega,by rw[Ag,AR];have h9:=hown7;rw[<- HX1.out]at h9;rw[show [(⟨c,[],gl⟩:AM)].flatMap Qr.encR=Qr.encR ⟨c,[],gl⟩ from AB _,HE.out];exact h9,((hb.trans ((A9 _ _).mono hb.size)).trans ((A9 _ _).mono oW)).grown hg7 oW (fun j hj=>(hown.lt j hj).1)⟩
      case measure=>simp[Aj];omega
     | false =>
      have HSG:=J hS
      have hns:JT c=false:=by
       rw[Qr.sgn_sg,hS,If,E9,beq_eq_false_iff_ne,beq_eq_false_iff_ne];exact⟨c32,c34⟩
      have HNS:=J hns;clear hns hS;generalize wr=wo at *;go_wp2_with (go_at_call 204;(with_reducible refine (r21_sign_c c _).mono ?_);rintro e w5 ⟨rfl,hw5⟩;have hw5':=hw5.symm;clear hw5;subst hw5';rw[HSG.out]);obtain⟨W6,hW6⟩:=zgv;have k6:=zda;have b6:=zib;have own6:=zqv;rw[<- hW6];clear hW6;have HNE:=zgg;go_loopw [7] (fun nv wr=>∃ N:Nat,k+1<=N/\N<=s.size/\nv=.int .i64 N/\Hid (∀ j,1<=j->j<N - k->∀ h:k+j<s.size,JT (s[k+j]'h)=false)/\wr=W6) (fun nv _=>s.size - (Aj nv).toNat)
      case atStart=>exact⟨k+1,Ad _,hlt,by go_num,J (fun j h1 h2=>oQ),rfl⟩
      case round =>
       obtain⟨N,hN1,hN2,rfl,hin,hwr⟩:=hrel;have hwr':W6=wr:=hwr.symm;clear hwr;subst hwr';obtain⟨c6,f6,l6⟩:=Tx.blk k6;obtain⟨c60,c61,c62⟩:=Tx.d3 c6;clear c6;have hw:=IntWalk.i64_in (N:Int) ⟨oQ,oQ⟩;have hNk:(k:Int)<=(N:Int):=oQ;have hNs:=zql
       have hout:(∀ h:k+(N - k)<s.size,JT (s[k+(N - k)]'h)=true)->((out++[⟨114,c::Qr.run (s.data.toList.drop (k+1)),gl⟩])++JB true (s.data.toList.drop N)=Bm s.data.toList)/\(⟨(c::Qr.run (s.data.toList.drop (k+1))).toArray⟩:ByteArray)=s.extract k N:=fun HO=>by
        have hre:=Qr.run_at (s:=s) (k:=k) (n:=N - k) oQ oQ hin.out HO
        have hrl:(Qr.run (s.data.toList.drop (k+1))).length=N - k - 1:=by
         rw[hre,List.length_take,Ay,<- Ao];omega
        refine⟨by rw[<- HT2.out,Qr.tokF_run gl _ HNS.out,hrl,BQ,show k+1+(N - k - 1)=N by omega,AW];rfl,?_⟩;have hxe:=LI s k N;rw[HDR.out,show N - k=(N - k - 1)+1 by omega,El,<- hre]at hxe;exact hxe
       have HOUT:=J hout;clear hout
       have HCL:Hid (∀ t∈out++[(⟨114,c::Qr.run (s.data.toList.drop (k+1)),gl⟩:AM)],t.k≠34):=J (fun t ht=>by
        rcases AQ.1 ht with h | h
        ·exact hcl.out t h
        ·rw[B9.1 h];show (114:UInt8)≠34;decide)
       by_cases hlt2:N<s.size
       ·obtain⟨d,hd⟩:=zrv;have hkd:∀ h:k+(N - k)<s.size,s[k+(N - k)]'h=d:=fun h=>by rw[<- hd];congr 1;omega
        have HKD:=J hkd;clear hkd;have hdd:∀ h,s[N]'h=d:=fun _=>hd;clear hd;by_cases d32:d=32
        ·subst d32;exact yjn
        ·have n32':((d.toNat:Int) == 32)=false:=beq_eq_false_iff_ne.2 (Il (n:=32) oX d32);have m32:((d.toNat:Int) != 32)=true:=by rw[bne,n32'];rfl
         by_cases d34:d=34
         ·subst d34;exact yjn
         ·have n34':((d.toNat:Int) == 34)=false:=beq_eq_false_iff_ne.2 (Il (n:=34) oX d34);have m34:((d.toNat:Int) != 34)=true:=by rw[bne,n34'];rfl
          obtain⟨D,hD⟩:∃ D,Qr.sg d=D:=⟨_,rfl⟩;have HSD:=J hD;cases D with
          | true =>
           have HOO:=HOUT.out (fun h=>by rw[HKD.out,Qr.sgn_sg,hD,Bool.or_true]);have HN:=J HOO.1;have HXE:=J HOO.2;clear HOO hD;have own8:=zak;have b8:=zt;have s8:=b8.size;have HO8:=J own8;have HB8:=J b8;clear own8 b8;go_wp2_with (first | (at_builtin;go_must (refine wpList_append_sl rfl _ _ 137 rfl w.heap.size 144 i0 _ 3 32 FY HI.out hz0 hz1 hz2 rfl oX _ out.length _ rfl (HO8.out.alloc _) (A3 ⟨_,0,A0⟩) 1 1 [.int .i64 1,.string (s.extract k N),.bool gl] rfl rfl oF oD oG oK oQ oW ?_);intro v' w7 hown7 hg7 hnil7) | (go_at_call 204;((with_reducible refine (r21_sign_c d _).mono ?_);rintro e w5 ⟨rfl,hw5⟩;have hw5':=hw5.symm;clear hw5;subst hw5';rw[HSD.out])));exact yyi
          | false =>
           have hsd:JT d=false:=by
            rw[Qr.sgn_sg,hD,If,E9,beq_eq_false_iff_ne,beq_eq_false_iff_ne];exact⟨d32,d34⟩
           have HI2:Hid (∀ j,1<=j->j<N+1 - k->∀ h:k+j<s.size,JT (s[k+j]'h)=false):=J (fun j h1 h2 h=>by
            by_cases hj:j<N - k
            ·exact hin.out j h1 hj h
            ·obtain rfl:j=N - k:=oQ;rw[HKD.out];exact hsd)
           clear hsd hD;go_wp2_with (go_at_call 204;(with_reducible refine (r21_sign_c d _).mono ?_);rintro e w5 ⟨rfl,hw5⟩;have hw5':=hw5.symm;clear hw5;subst hw5';rw[HSD.out]);go_roundw
           case rel=>exact⟨N+1,oQ,oQ,by go_num,HI2,by first | trivial | rfl⟩
           case measure=>simp[Aj];omega
       ·have HOO:=HOUT.out (fun h=>oQ);exact yi0
  ·go_wp2_with (at_builtin;go_must (refine wpList_append_sl rfl _ _ 137 rfl w.heap.size 144 i0 _ 3 32 FY HI.out hz0 hz1 hz2 rfl oX _ out.length _ rfl (hown.alloc _) (A3 ⟨_,0,A0⟩) 1 1 [.int .i64 0,.string ⟨#[]⟩,.bool false] rfl rfl oF oD oG oK oQ oW ?_);intro v' w7 hown7 hg7 hnil7);have hd:=zer;have h8:=hT.out;rw[hd,Qr.tokF_nil,AB]at h8;exact Aw (v:=.tuple #[v',.bool true]) zst rfl (.inr (by rw[<- h8];exact⟨Qr.any34_not hcl.out,⟨_,rfl,hown7⟩,(hb.trans ((A9 _ _).mono hb.size)).grown hg7 oW (fun j hj=>(hown.lt j hj).1)⟩))
namespace Qr
theorem toks_k0':∀ (n:Nat) (g:Bool) (l:By),(∀ c∈l,True)->∀ t∈toks n g l,t.k≠0
 | 0,_,_,_,t,h=>by simp[toks]at h
 | n+1,_,[],_,t,h=>by simp[toks]at h
 | n+1,g,c::r,_,t,h=>by
  unfold toks at h;split at h
  ·exact toks_k0' n _ _ (fun _ _=>trivial) t h
  ·split at h
   ·rename_i h4;rcases AL.1 h with h | h
    ·subst h;rcases h4 with h4 | h4 | h4 | h4 <;> subst h4 <;> simp
    ·exact toks_k0' n _ _ (fun _ _=>trivial) t h
   ·split at h
    ·split at h
     ·rcases AL.1 h with h | h
      ·subst h;show (113:UInt8)≠0;decide
      ·exact toks_k0' n _ _ (fun _ _=>trivial) t h
     ·rcases AL.1 h with h | h
      ·subst h;show (34:UInt8)≠0;decide
      ·exact toks_k0' n _ _ (fun _ _=>trivial) t h
    ·rcases AL.1 h with h | h
     ·subst h;show (114:UInt8)≠0;decide
     ·exact toks_k0' n _ _ (fun _ _=>trivial) t h
theorem toks_k0 (s:By):∀ t∈tokens s,t.k≠0:=fun t h=>toks_k0' _ _ _ (fun _ _=>trivial) t h
theorem toks_lg:∀ (n:Nat) (g:Bool) (l:By),∀ t∈toks n g l,t.k=34\/Lg t
 | 0,_,_,t,h=>by simp[toks]at h
 | n+1,_,[],t,h=>by simp[toks]at h
 | n+1,g,c::r,t,h=>by
  unfold toks at h;split at h
  ·exact toks_lg n _ _ t h
  ·split at h
   ·rename_i h4;rcases AL.1 h with h | h
    ·subst h;right;rcases h4 with h4 | h4 | h4 | h4 <;> subst h4 <;> simp[Lg]
    ·exact toks_lg n _ _ t h
   ·split at h
    ·split at h
     ·rcases AL.1 h with h | h
      ·subst h;right;simp[Lg]
      ·exact toks_lg n _ _ t h
     ·rcases AL.1 h with h | h
      ·subst h;exact .inl rfl
      ·exact toks_lg n _ _ t h
    ·rcases AL.1 h with h | h
     ·subst h;right;simp[Lg]
     ·exact toks_lg n _ _ t h
theorem TokRes.open_ {l:List Tok}{w w':Ab}{e:Ending} (h:TokRes l w e w') (ho:l.any (fun t=>t.k == 34)=true):e=.returned (.tuple #[.slice A0 0 0,.bool false])/\Aa w.heap.size w w':=by
 rcases h with⟨_,h1,h2⟩ | ⟨h0,_⟩
 ·exact⟨h1,h2⟩
 ·rw[ho]at h0;cases h0
theorem TokRes.good {s:By}{w w':Ab}{e:Ending} (h:TokRes (tokens s) w e w') (ho:(tokens s).any (fun t=>t.k == 34)=false) (hok:TokOk (tokens s)) (hl:(tokens s).length<=1000):∃ b o c,e=.returned (.tuple #[.slice (A3 ⟨b,o,A0⟩) ((tokens s).length+1) c,.bool true])/\RT w' (tokens s) b o c/\Aa w.heap.size w w':=by
 rcases h with⟨h0,_⟩ | ⟨_,⟨v,rfl,hown⟩,hb⟩
 ·rw[ho]at h0;cases h0
 ·obtain⟨l,hL⟩:∃ l,tokens s=l:=⟨_,rfl⟩
  have hlg:∀ t∈l,Lg t:=fun t ht=>by
   rw[<- hL]at ht;rcases toks_lg _ _ _ t ht with h | h
   ·rw[List.any_eq_false]at ho;have:=ho t ht;rw[h]at this;simp at this
   ·exact h
  rw[hL]at hown hok hl ⊢
  have hown2:w'.ownsRow w.heap.size 144 3 v (l++[(⟨0,[],false⟩:Tok)]).length ((l++[(⟨0,[],false⟩:Tok)]).flatMap encR):=by
   rw[Ag,AR];exact hown
  obtain⟨a,c,e1,hFA,_⟩:=Br.FA.of_own (enc:=encR) (size:=3) (fun _=>rfl) hown2 rfl;subst e1;obtain⟨b,o,h1,h2⟩:=hFA.at_;obtain⟨rfl,h4⟩:=h1 oZ;have hcap:=hFA.cap;rw[Ag]at hcap;refine⟨b,o,c,by rw[Ag];rfl,⟨hcap,hFA.max,oQ,h4,hlg,hok,fun r hr=>?_⟩,hb⟩
  have hg:(l++[(⟨0,[],false⟩:Tok)])[l.length - r.length]?=A3 (lk r):=by
   have hrl:=hr.length_le;cases r with
   | nil=>rw[Bw,Nat.sub_zero,List.getElem?_append_right (Ad _),F9];rfl
   | cons x y =>
    have:=suf_at hr 0;rw[Nat.add_zero]at this;rw[List.getElem?_append_left (by rw[AH]at hrl ⊢;omega),this];rfl
  exact⟨h2 _ 0 _ _ hg rfl,h2 _ 1 _ _ hg rfl,h2 _ 2 _ _ hg rfl⟩
theorem parse_ref_end {s:By}{q:Qy} (hl:¬ 1000<s.length) (hv:AE s=true) (hx:pOr false (8*(tokens s).length+8) (tokens s)=A3 (q,[])):parse s=if rightE q=0 then (q,0) else (q0,rightE q):=by
 rw[parse_ref,if_neg hl,if_neg uJ,hx]
theorem parse_ref_bad {s:By} (hl:¬ 1000<s.length) (hv:AE s=true) (hx:∀ q,pOr false (8*(tokens s).length+8) (tokens s)≠A3 (q,[])):parse s=(q0,3):=by
 rw[parse_ref,if_neg hl,if_neg uJ];generalize pOr false (8*(tokens s).length+8) (tokens s)=x at hx;rcases x with _ | ⟨q,_ | ⟨a,b⟩⟩
 ·rfl
 ·exact absurd rfl (hx q)
 ·rfl
end Qr
theorem r21_or_at0 (toks:List AM) (b o c N:Nat) (hN:8*toks.length+7<=N) (x:Qr.PR) (hx:DN false N toks=x) (w:Ab) (h:CS w toks b o c) :
  Af A8 124 #[.slice (A3 ⟨b,o,A0⟩) (toks.length+1) c,.int .i64 0] w (BV toks x w):=by
 have h1:=(r21_readers toks b o c N).1 N toks w (Ad _) hN (List.suffix_refl _) h;rw[F9,hx]at h1;exact h1
theorem r21_Parse_1 (s:ByteArray) (w:Ab) (hl:1000<s.size) :
  Af A8 56 #[.string s] w fun e w'=>∃ t,e=.returned (.tuple #[.agg (Bb t).toArray,.int .i64 (BI s.data.toList).2])/\D6 w.heap.size w' (BI s.data.toList).1 (Bb t)/\Aa w.heap.size w w':=by
 rw[Qr.parse_long aY];have g1:(1000:Int)<(s.size:Int):=oQ;obtain⟨W,hW⟩:=zdp;have hB:=zi;have hWs:=zv;have KR:=zz;obtain⟨z0,z1,z2,z3,z4,z5,zf⟩:=Tx.c6 KR.out;go_enter JG,Jc;go_wp2;exact Aw (v:=.tuple #[.agg (Bb Gz).toArray,.int .i64 4]) eV rfl ⟨Gz,rfl,JD _ _,DK hB (Ad _) _ _ _ _ _ _⟩
theorem uq9 (h:P:=by
 go_enter JG,Jc
 go_wp2_with (first
  |(go_at_call 123;(with_reducible refine (r21_tokens_w s _ oQ).mono ?_);rintro e w2 hh;obtain⟨rfl,hb2⟩:=hh.open_ HO.out;clear hh;have k2:=Ac k1 hb2;have s2:=hb2.size;have KR2:=zfu;obtain⟨z0,z1,z2,z3,z4,z5,zf⟩:=zri)
  |(go_at_call 122;(with_reducible refine (r01_Valid_c s _ oQ).mono ?_);rintro e w1 ⟨rfl,hb1⟩;rw[HV.out];have k1:=Ac hB hb1;have s1:=hb1.size;have KR1:=zkb;obtain⟨z0,z1,z2,z3,z4,z5,zf⟩:=Tx.c6 KR1.out))
 first
  |exact Aw (v:=.tuple #[.agg (Bb Gz).toArray,.int .i64 3]) eV rfl ⟨Gz,rfl,JD _ _,DK k2 (Ad _) _ _ _ _ _ _⟩
  |exact Aw (v:=.tuple #[.agg (Bb Gz).toArray,.int .i64 3]) eV rfl ⟨Gz,rfl,JD _ _,DK k1 (Ad _) _ _ _ _ _ _⟩):P:=h
theorem ywk (h:P:=by
 obtain⟨W,hW⟩:=zdp;have hB:=zi;have hWs:=zv;have KR:=zz;obtain⟨z0,z1,z2,z3,z4,z5,zf⟩:=Tx.c6 KR.out;exact uq9):P:=h
theorem r21_Parse_2 (s:ByteArray) (w:Ab) (hl:¬ 1000<s.size) (hv:AE s.data.toList=false) :
  Af A8 56 #[.string s] w fun e w'=>∃ t,e=.returned (.tuple #[.agg (Bb t).toArray,.int .i64 (BI s.data.toList).2])/\D6 w.heap.size w' (BI s.data.toList).1 (Bb t)/\Aa w.heap.size w w':=by
 rw[Qr.parse_bad aY hv];have g1:=zdd;have HV:=J hv;clear hv;exact ywk
theorem r21_Parse_3 (s:ByteArray) (w:Ab) (hl:¬ 1000<s.size) (hv:AE s.data.toList=true) (ho:(Bm s.data.toList).any (fun t=>t.k == 34)=true) :
  Af A8 56 #[.string s] w fun e w'=>∃ t,e=.returned (.tuple #[.agg (Bb t).toArray,.int .i64 (BI s.data.toList).2])/\D6 w.heap.size w' (BI s.data.toList).1 (Bb t)/\Aa w.heap.size w w':=by
 rw[Qr.parse_ref_bad aY hv (fun q=>Qr.open_quote ho)];have g1:=zdd;have HV:=J hv;have HO:=J ho;clear hv ho;exact ywk
theorem ye4 (h:P:=by
 exact Aw (v:=.tuple #[.agg (Bb Gz).toArray,.int .i64 3]) eV rfl ⟨Gz,rfl,JD _ _,DK k3a (Ad _) _ _ _ _ _ _⟩):P:=h
theorem v2f (h:P:=by
 have g1:=zdd;have hok:=zqw;have HV:=J hv;clear hv;have GD:Hid (∀ {w w':Ab}{e:Ending},Qr.TokRes (Bm s.data.toList) w e w'->∃ b o c,e=.returned (.tuple #[.slice (A3 ⟨b,o,A0⟩) ((Bm s.data.toList).length+1) c,.bool true])/\CS w' (Bm s.data.toList) b o c/\Aa w.heap.size w w'):=J (fun h=>h.good ho hok.1 hok.2);obtain⟨l,hL⟩:=zgp;rw[hL]at hx hok GD;have HL:=J hL;clear hL ho;have hll:=hok.2;have HOK:=J hok.1;clear hok
 first
  |guard_hyp r;have hsuf:=((DO false (8*l.length+8)).1 l q r hx).1
   have HRS:=J hsuf;have hsl:=hsuf.length_le;obtain⟨A,hA⟩:=zap;have hAl:A<=l.length:=oQ;have HA:=J hA;clear hA hsuf;have hmx:maxLen=9223372036854775807:=rfl
   have KN:Hid (∀ {w:Ab}{b o c:Nat},CS w l b o c->(AT r).k≠0):=J (fun hRT h=>by
    cases r with
    | nil=>exact hr rfl
    | cons x y =>
     exact (Qr.toks_k0 s.data.toList x (by rw[HL.out];exact HRS.out.subset (List.mem_cons_self ..))) h)
   have HX:=J hx;clear hx hr;obtain⟨W,hW⟩:=zdp;have hB:=zi;have hWs:=zv;have KR:=zz;obtain⟨z0,z1,z2,z3,z4,z5,zf⟩:=Tx.c6 KR.out;go_enter JG,Jc
   go_wp2_with (first
    |(go_at_call 124;(with_reducible refine (r21_or_at0 _ b o c _ oQ _ HX.out _ hRT).mono ?_);rintro e w3 hh;obtain⟨qo,qf,qa,qb,qsa,qsn,qsc,qka,qkn,qkc,rfl,hq3,hb3⟩:=hh.get;rw[HA.out];clear hh;have k3:=zjh;have s3:=hb3.size;have ew3:=zcp;have KR3:=zhx;have k3a:=zck;obtain⟨z0,z1,z2,z3,z4,z5,zf⟩:=Tx.c6 KR3.out;have hRT3:=(hRT.below hb3);have hbl3:=hRT3.lt;have e0:=(hRT3.at_ r HRS.out).1;rw[HA.out]at e0;have e0a:=cell_later ew3 e0;have hcap:=hRT3.cap;have hmax:=hRT3.max)
    |(go_at_call 123;(with_reducible refine (r21_tokens_w s _ oQ).mono ?_);rintro e w2 hh;rw[HL.out]at hh;obtain⟨b,o,c,rfl,hRT,hb2⟩:=GD.out hh;clear hh;have hk3:=(Qr.kR_eq (hRT.leg HRS.out)).2.2.1;have hkn:(Qr.kR (AT r).k != 0)=true:=(by rw[bne,beq_eq_false_iff_ne.2 (fun h=>KN.out hRT (hk3.1 h))];rfl);have k2:=Ac k1 hb2;have s2:=hb2.size;have KR2:=zfu;obtain⟨z0,z1,z2,z3,z4,z5,zf⟩:=zri)
    |(go_at_call 122;(with_reducible refine (r01_Valid_c s _ oQ).mono ?_);rintro e w1 ⟨rfl,hb1⟩;rw[HV.out];have k1:=Ac hB hb1;have s1:=hb1.size;have KR1:=zkb;obtain⟨z0,z1,z2,z3,z4,z5,zf⟩:=Tx.c6 KR1.out))
   exact ye4
  |guard_hyp hE;have hsuf:=((DO false (8*l.length+8)).1 l q [] hx).1
   have HRS:=J hsuf;have hsl:=hsuf.length_le;obtain⟨A,hA⟩:=zjd;have hAl:A<=l.length:=oQ;have HA:=J hA;clear hA hsuf;have hmx:maxLen=9223372036854775807:=rfl;have hnd:=(Ex false (8*l.length+8)).1 l q [] hx;have HND:Hid (Qr.nodes q<=2000):=J oQ;have HWZ:=J ((Qr.wz_all false (8*l.length+8)).1 l HOK.out q [] hx);have HX:=J hx;clear hx hnd;have HE:=J hE;clear hE
   first
    |guard_hyp E;have hEn:(E != 0)=true:=by rw[bne,beq_eq_false_iff_ne.2 hE0];rfl
     exact yr3
    |exact yr3
  |have HX:=J hx;clear hx
   obtain⟨W,hW⟩:=zdp;have hB:=zi;have hWs:=zv;have KR:=zz;obtain⟨z0,z1,z2,z3,z4,z5,zf⟩:=Tx.c6 KR.out;go_enter JG,Jc
   go_wp2_with (first
    |(go_at_call 124;(with_reducible refine (r21_or_at0 _ b o c _ oQ _ HX.out _ hRT).mono ?_);rintro e w3 hh;obtain⟨qo,qf,qa,qb,qsa,qsn,qsc,qka,qkn,qkc,n,rfl,hb3⟩:=hh.bad;clear hh;have k3:=zjh;have s3:=hb3.size;have ew3:=A9 w3 (.cells #[.int .i64 qo,.int .i64 qf,.slice qsa qsn qsc,.int .i64 qa,.int .i64 qb,.slice qka qkn qkc,.int .i64 n,.bool false] 141);have KR3:=zhx;have k3a:=k3.alloc k3.size (.cells #[.int .i64 qo,.int .i64 qf,.slice qsa qsn qsc,.int .i64 qa,.int .i64 qb,.slice qka qkn qkc,.int .i64 n,.bool false] 141);obtain⟨z0,z1,z2,z3,z4,z5,zf⟩:=Tx.c6 KR3.out)
    |(go_at_call 123;(with_reducible refine (r21_tokens_w s _ oQ).mono ?_);rintro e w2 hh;rw[HL.out]at hh;obtain⟨b,o,c,rfl,hRT,hb2⟩:=GD.out hh;clear hh;have k2:=Ac k1 hb2;have s2:=hb2.size;have KR2:=zfu;obtain⟨z0,z1,z2,z3,z4,z5,zf⟩:=zri)
    |(go_at_call 122;(with_reducible refine (r01_Valid_c s _ oQ).mono ?_);rintro e w1 ⟨rfl,hb1⟩;rw[HV.out];have k1:=Ac hB hb1;have s1:=hb1.size;have KR1:=zkb;obtain⟨z0,z1,z2,z3,z4,z5,zf⟩:=Tx.c6 KR1.out))
   exact ye4):P:=h
theorem r21_Parse_4 (s:ByteArray) (w:Ab) (hl:¬ 1000<s.size) (hv:AE s.data.toList=true) (ho:(Bm s.data.toList).any (fun t=>t.k == 34)=false) (hx:DN false (8*(Bm s.data.toList).length+8) (Bm s.data.toList)=A0) :
  Af A8 56 #[.string s] w fun e w'=>∃ t,e=.returned (.tuple #[.agg (Bb t).toArray,.int .i64 (BI s.data.toList).2])/\D6 w.heap.size w' (BI s.data.toList).1 (Bb t)/\Aa w.heap.size w w':=by
 rw[Qr.parse_ref_bad aY hv (fun q=>by rw[hx];simp)];exact v2f
theorem r21_Parse_5 (s:ByteArray) (w:Ab) (hl:¬ 1000<s.size) (hv:AE s.data.toList=true) (ho:(Bm s.data.toList).any (fun t=>t.k == 34)=false) (q:Cq) (r:List AM) (hx:DN false (8*(Bm s.data.toList).length+8) (Bm s.data.toList)=A3 (q,r)) (hr:r≠[]) :
  Af A8 56 #[.string s] w fun e w'=>∃ t,e=.returned (.tuple #[.agg (Bb t).toArray,.int .i64 (BI s.data.toList).2])/\D6 w.heap.size w' (BI s.data.toList).1 (Bb t)/\Aa w.heap.size w w':=by
 rw[Qr.parse_ref_bad aY hv (fun q=>by rw[hx];intro h;injection h with h;injection h with h1 h2;exact hr h2)];exact v2f
theorem uk6 (h:P:=by
 go_enter JG,Jc
 go_wp2_with (first
  |(go_at_call 32;refine (r21_Right_c w2.heap.size q _ _ (hq3.later (A9 w3 _)) HWZ.out UZ).mono ?_;rintro e w4 ⟨rfl,hb4⟩;rw[HE.out];have k4:=Ac k3a hb4;have s4:=hb4.size;have KR4:=zjm;have KP4:=J (A6 (heap_alloc_new w3 _) hb4);have hq4:=(hq3.later (A9 w3 _)).later hb4;obtain⟨z0,z1,z2,z3,z4,z5,zf⟩:=Tx.c6 KR4.out;obtain⟨p0,p1,p2,p3,p4,p5,-⟩:=Tx.c6 KP4.out)
  |(go_at_call 124;(with_reducible refine (r21_or_at0 _ b o c _ oQ _ HX.out _ hRT).mono ?_);rintro e w3 hh;obtain⟨qo,qf,qa,qb,qsa,qsn,qsc,qka,qkn,qkc,rfl,hq3,hb3⟩:=hh.get;rw[HA.out];clear hh;have k3:=zjh;have s3:=hb3.size;have ew3:=zcp;have KR3:=zhx;have k3a:=zck;obtain⟨z0,z1,z2,z3,z4,z5,zf⟩:=Tx.c6 KR3.out;have hRT3:=(hRT.below hb3);have hbl3:=hRT3.lt;have e0:=(hRT3.at_ [] HRS.out).1;rw[HA.out]at e0;have e0a:=cell_later ew3 e0;have hcap:=hRT3.cap;have hmax:=hRT3.max)
  |(go_at_call 123;(with_reducible refine (r21_tokens_w s _ oQ).mono ?_);rintro e w2 hh;rw[HL.out]at hh;obtain⟨b,o,c,rfl,hRT,hb2⟩:=GD.out hh;clear hh;have k2:=Ac k1 hb2;have s2:=hb2.size;have KR2:=zfu;obtain⟨z0,z1,z2,z3,z4,z5,zf⟩:=zri)
  |(go_at_call 122;(with_reducible refine (r01_Valid_c s _ oQ).mono ?_);rintro e w1 ⟨rfl,hb1⟩;rw[HV.out];have k1:=Ac hB hb1;have s1:=hb1.size;have KR1:=zkb;obtain⟨z0,z1,z2,z3,z4,z5,zf⟩:=Tx.c6 KR1.out))
 first
  |exact Aw (v:=.tuple #[.agg #[.int .i64 qo,.int .i64 qf,.slice qsa qsn qsc,.int .i64 qa,.int .i64 qb,.slice qka qkn qkc],.int .i64 0]) eV rfl ⟨⟨qo,qf,qsa,qsn,qsc,qa,qb,qka,qkn,qkc⟩,rfl,(hq4.kp (Qr.Kp.put6 (Qr.Kp.refl _ _) oQ _ _ _ _ _ _)).mono oQ,DK k4 (Ad _) _ _ _ _ _ _⟩
  |exact Aw (v:=.tuple #[.agg (Bb Gz).toArray,.int .i64 E]) eV rfl ⟨Gz,rfl,JD _ _,DK k4 (Ad _) _ _ _ _ _ _⟩):P:=h
theorem yr3 (h:P:=by
 obtain⟨W,hW⟩:=zdp;have hB:=zi;have hWs:=zv;have KR:=zz;obtain⟨z0,z1,z2,z3,z4,z5,zf⟩:=Tx.c6 KR.out;exact uk6):P:=h
theorem va6 (h:P:=by
 exact v2f):P:=h
theorem r21_Parse_6 (s:ByteArray) (w:Ab) (hl:¬ 1000<s.size) (hv:AE s.data.toList=true) (ho:(Bm s.data.toList).any (fun t=>t.k == 34)=false) (q:Cq) (hx:DN false (8*(Bm s.data.toList).length+8) (Bm s.data.toList)=A3 (q,[])) (E:Int) (hE:GH q=E) (hE0:E≠0) :
  Af A8 56 #[.string s] w fun e w'=>∃ t,e=.returned (.tuple #[.agg (Bb t).toArray,.int .i64 (BI s.data.toList).2])/\D6 w.heap.size w' (BI s.data.toList).1 (Bb t)/\Aa w.heap.size w w':=by
 rw[Qr.parse_ref_end aY hv hx,hE,if_neg hE0];exact va6
theorem r21_Parse_7 (s:ByteArray) (w:Ab) (hl:¬ 1000<s.size) (hv:AE s.data.toList=true) (ho:(Bm s.data.toList).any (fun t=>t.k == 34)=false) (q:Cq) (hx:DN false (8*(Bm s.data.toList).length+8) (Bm s.data.toList)=A3 (q,[])) (hE:GH q=0) :
  Af A8 56 #[.string s] w fun e w'=>∃ t,e=.returned (.tuple #[.agg (Bb t).toArray,.int .i64 (BI s.data.toList).2])/\D6 w.heap.size w' (BI s.data.toList).1 (Bb t)/\Aa w.heap.size w w':=by
 rw[Qr.parse_ref_end aY hv hx,if_pos hE];exact va6
theorem r21_Parse_c (s:ByteArray) (w:Ab) :
  Af A8 56 #[.string s] w fun e w'=>∃ t,e=.returned (.tuple #[.agg (Bb t).toArray,.int .i64 (BI s.data.toList).2])/\D6 w.heap.size w' (BI s.data.toList).1 (Bb t)/\Aa w.heap.size w w':=by
 by_cases hl:1000<s.size
 ·exact r21_Parse_1 s w hl
 cases hv:AE s.data.toList with
 | false=>exact r21_Parse_2 s w hl hv
 | true =>
  cases ho:(Bm s.data.toList).any (fun t=>t.k == 34) with
  | true=>exact r21_Parse_3 s w hl hv ho
  | false =>
   rcases hx:DN false (8*(Bm s.data.toList).length+8) (Bm s.data.toList) with _ | ⟨q,_ | ⟨a,r⟩⟩
   ·exact r21_Parse_4 s w hl hv ho hx
   ·by_cases hE:GH q=0
    ·exact r21_Parse_7 s w hl hv ho q hx hE
    ·exact r21_Parse_6 s w hl hv ho q hx _ rfl hE
   ·exact r21_Parse_5 s w hl hv ho q _ hx oZ
end Go.Proofs.YtlakomilichhnaaGreatDoor
