/- Parts. -/
import Derived.Test.YtlakomilichhnaaGreatDoorRPe
namespace Go.Proofs.YtlakomilichhnaaGreatDoor
set_option maxHeartbeats 51200000
set_option maxRecDepth 100000
open Go.RowKit
open Bool renaming and_eq_true->Bu,or_eq_true->DS
open Go renaming Calls->Af,World->Ab,bodyPost_ret->Aw,heap_alloc_new->Ae
open Lib renaming cut->Fg,hid->J
open List renaming length_append->Ag,length_cons->AH,length_nil->Bw,length_tail->Cl,setIfInBounds_toArray->Bj,set_cons_succ->BS,set_cons_zero->BR,suffix_refl->Bv
open Nat renaming le_refl->Ad
open Option renaming none->A0,some->A3
open Proofs.Tryz renaming func287->DY,ntmps287->DB,prog->A8,underlying27->DG
open Qr renaming Fr->AF,PR->I6,PS->B1,Qy->Cq,Res->DU,Tok->AM,andB->F2,begins->Dg,blk_set1->BL,eats_all->DO,encQ->Bb,far6->EL,fieldOf->GA,glue->Ho,isOp->E6,isOp_ne->Ji,joined->GI,lAnd->Fw,lOr->Jt,lk->AT,lk1->F1,nodesL->CO,nodes_all->Ex,notB->E5,orB->Io,pAnd->GX,pFlat->JW,pNot->EJ,pOr->DN,pPrim->Db,pTerm->D7,pYears->Ck,run_tok0->G3,run_tok1->G4,run_tok2->G5,tail_eats->EQ,word0->DM,wordsB->Bp,wrongP->EX,yearN->Di,zeroQ->AO
open Qr.Fr renaming put6->Cc,refl->Bh
open Qr.Kp renaming below->Bc,put6->Dp,refl->Dn
open Qr.PS renaming of->BD,of'->GK
open RowKit.Below renaming refl->Ah
open Tx renaming blk_far->As,blk_later->A6,newb->A9,put6->DK,words->Bl
open UInt8 renaming toNat_inj->EF
open World renaming size_alloc->An
open _root_.Array renaming getElem?_eq_some_iff->AA
variable {P:Prop}
section
attribute [local go_sem] G3 G4 G5
theorem cut_c (tt x y:List UInt8) (b:Bool) (w:Ab) (hG:G w) (hs:tt.length<=1000) (h:Fg tt [45]=(x,y,b)) :
  Af A8 93 #[.string ⟨tt.toArray⟩,.string ⟨#[45]⟩] w fun e w'=>e=.returned (.tuple #[.string ⟨x.toArray⟩,.string ⟨y.toArray⟩,.bool b])/\Below w.heap.size w w':=by
 obtain⟨m,hm⟩:=hG.m;refine (Tryz.strings_Cut ⟨tt.toArray⟩ ⟨#[45]⟩ m w iV hm).mono ?_;rintro e w' ⟨rfl,q,rfl⟩;refine⟨?_,Tx.drawn (Ah _ _) _⟩;rw[show (⟨tt.toArray⟩:ByteArray).data.toList=tt from rfl,show (⟨#[45]⟩:ByteArray).data.toList=[45] from rfl,h]
theorem yn1 (h:P:=by
 refine (year_c ⟨x.toArray⟩ w iV hG).mono ?_;rintro e w' ⟨h1,h2⟩;rw[show (⟨x.toArray⟩:ByteArray).data.toList=x from rfl,h]at h1;exact⟨h1,h2⟩):P:=h
theorem year_some {x:List UInt8}{n:Nat} (h:Di x=A3 n) (hs:x.length<=1000) (w:Ab) (hG:G w) :
  Af A8 308 #[.string ⟨x.toArray⟩] w fun e w'=>e=.returned (.int .i64 (n:Int))/\Below w.heap.size w w':=by
 exact yn1
theorem year_none {x:List UInt8} (h:Di x=A0) (hs:x.length<=1000) (w:Ab) (hG:G w) :
  Af A8 308 #[.string ⟨x.toArray⟩] w fun e w'=>e=.panicked [{ v:=EX,recovered:=false }]/\Below w.heap.size w w':=by
 exact yn1
theorem uxb (h:P:=by
 go_enter Tryz.func301,Tryz.ntmps301
 go_wp2_with (first
  |(go_at_call 308;refine (Y2 _ hG5).mono ?_;rintro e w6 ⟨rfl,hb6⟩;have s6:=hb6.size;have kg6:=A6 KG5.out hb6;have kR6:=A6 KR5.out hb6;have hF6:=hF5.trans (.of_below hb6);obtain⟨kc6,kf6,kl6⟩:=Tx.blk kR6;obtain⟨z0,z1,z2,z3,z4,z5⟩:=Tx.d6 kc6;have KG6:=J kg6;have KR6:=J kR6;clear kg6 kR6 kc6)
  |(go_at_call 308;refine (Y1 _ hPS4.gp.g).mono ?_;rintro e w5 ⟨rfl,hb5⟩;have s5:=hb5.size;have KG5:=J (A6 KG4.out hb5);have KR5:=J (A6 KR4.out hb5);have hF5:=hF4.trans (.of_below hb5);have hG5:=(hPS4.below hb5).gp.g)
  |(go_at_call 93;refine (CUT _ hPS2.gp.g).mono ?_;rintro e w3 ⟨rfl,hb3⟩;have s3:=hb3.size;have kT3:=A6 KT2.out hb3;have kg3:=A6 KG2.out hb3;have kR3:=A6 KR2.out hb3;have hF3:=hF2.trans (.of_below hb3);obtain⟨e50,-⟩:=Tx.c1 kT3;obtain⟨-,eg,fg⟩:=Tx.c2 kg3;have kg4:=BL kg3 (.int .i64 ((A:Int)+1));have hF4:=hF3.set1 (.int .i64 ((A:Int)+1));have hPS4:=BD HPP.out KG.out hF4 HTE.out.1 kg4 HA1.out;have kR4:=As (a:=⟨g,1,A0⟩) kR3 (show w.heap.size≠g by omega) (.int .i64 ((A:Int)+1));have KG4:=J kg4;have KR4:=J kR4;clear kT3 kg3 kR3 kg4 kR4 e30 e31)
  |(go_at_call 252;refine (L1 _ (hP1.below (A9 _ _))).mono ?_;rintro e w2 ⟨he,hb2⟩;have ew2:=zps;subst he;have s1:=zbc;have s2:=zdv;have kT2:=zel;have kg2:=zas;have kR2:=zbe;have hF2:=zbb;obtain⟨e30,e31,-⟩:=Tx.c2 kT2;have hPS2:=BD HPP.out KG.out hF2 (Bv _) kg2 HAA.out;have KG2:=zpt;have KT2:=J kT2;have KR2:=J kR2;clear kg2 kT2 kR2)
  |(go_at_call 252;refine (L0 _ hP0).mono ?_;rintro e w1 ⟨rfl,hb1⟩;have hP1:=zng))
 first
  |refine Aw (v:=.agg #[.int .i64 4,.int .i64 0,.slice A0 0 0,.int .i64 m,.int .i64 n,.slice A0 0 0]) (by simp[results,Tryz.results301,go_sem,z0,z1,z2,z3,z4,z5]) rfl ⟨⟨4,0,A0,0,0,m,n,A0,0,0⟩,rfl,Qr.QC.of_kids (ws:=[]) (ks:=[]) (.inl ⟨rfl,_,_,rfl⟩) (fun h=>absurd rfl h) (Qr.KA.nil _ _),BD HPP.out KG.out (Cc hF6 (Ad _) _ _ _ _ _ _) HTE.out.1 (EL KG6.out (show g≠w.heap.size by omega) _ _ _ _ _ _) HA1.out,(Cc hF6 (Ad _) _ _ _ _ _ _)⟩
  |all_goals exact⟨rfl,rfl,hF3⟩
  |exact⟨rfl,rfl,hF2⟩
  |exact⟨rfl,rfl,hF5⟩
  |exact⟨rfl,rfl,hF6⟩):P:=h
theorem years_glue (g:Nat) (l r:List AM) (w:Ab) (hP:B1 g l r w) (kk nk:UInt8) (tt nt:List UInt8) (tg ng:Bool) (K N:Int) (ht:AT r=⟨kk,tt,tg⟩) (hK:(kk.toNat:Int)=K) (hn:F1 r=⟨nk,nt,ng⟩) (hN:(nk.toNat:Int)=N) (hk0:kk≠0) (h1:N=58) (h2:ng=true) :
  Af A8 301 #[.pointer (A3 ⟨g,0,A0⟩)] w fun e w'=>e=.panicked [{ v:=EX,recovered:=false }]/\AF g w w':=by
 have hk1:=zgd;have htok:=hP.tok hk1;rw[ht]at htok;simp only at htok;have hsz:=zmm;have hte:=zfl;have hsl:=hP.suf.length_le;have hll:=hP.len;have L0:=zw;have L1:=zbi;obtain⟨ta,tc,kg,_,_⟩:=hP.blk;obtain⟨A,hA⟩:=zap;rw[hA]at kg;have HAA:=zcf;have hA1:=ze;have hw1:=zag;have hgl:=hP.lt;have hP0:=zr;have KG:=J kg;clear kg;have HA1:=J hA1;clear hA1;have HV:=J htok.1;clear htok;have HTE:=J hte;clear hte;have HPP:=J hP;clear hP;clear ht hn hK hN hk0 hA hk1;subst h1;subst h2;exact uxb
theorem years_bad (g:Nat) (l r:List AM) (w:Ab) (hP:B1 g l r w) (kk nk:UInt8) (tt nt:List UInt8) (tg ng:Bool) (K N:Int) (ht:AT r=⟨kk,tt,tg⟩) (hK:(kk.toNat:Int)=K) (hn:F1 r=⟨nk,nt,ng⟩) (hN:(nk.toNat:Int)=N) (hk0:kk≠0) (hpass:(N == 58)=false\/(N=58/\ng=false)) (x y:List UInt8) (b:Bool) (hcut:Fg tt [45]=(x,y,b)) (hb:(K == 114)=false\/(K=114/\b=false)) :
  Af A8 301 #[.pointer (A3 ⟨g,0,A0⟩)] w fun e w'=>e=.panicked [{ v:=EX,recovered:=false }]/\AF g w w':=by
 have hk1:=zgd;have htok:=hP.tok hk1;rw[ht]at htok;simp only at htok;have hsz:=zmm;have hte:=zfl;have hsl:=hP.suf.length_le;have hll:=hP.len;have L0:=zw;have L1:=zbi;obtain⟨ta,tc,kg,_,_⟩:=hP.blk;obtain⟨A,hA⟩:=zap;rw[hA]at kg;have HAA:=zcf;have hA1:=ze;have hw1:=zag;have hgl:=hP.lt;have hP0:=zr;have KG:=J kg;clear kg;have HA1:=J hA1;clear hA1;have HV:=J htok.1;clear htok;have HTE:=J hte;clear hte;have HPP:=J hP;clear hP;clear ht hn hK hN hk0 hA hk1;have CUT:=fun w h=>cut_c tt x y b w h hsz hcut;clear hcut;rcases hb with hk | ⟨rfl,rfl⟩
 ·have hk2:(K != 114)=true:=by rw[bne,hk];rfl
  have hk3:¬ K=114:=beq_eq_false_iff_ne.1 hk;rcases hpass with hp | ⟨rfl,rfl⟩
  ·exact uxb
  ·exact uxb
 ·rcases hpass with hp | ⟨rfl,rfl⟩
  ·exact uxb
  ·exact uxb
theorem yd4 (h:P:=by
 subst hK4;rcases hpass with hp | ⟨rfl,rfl⟩
 ·exact uxb
 ·exact uxb):P:=h
theorem years_n1 (g:Nat) (l r:List AM) (w:Ab) (hP:B1 g l r w) (kk nk:UInt8) (tt nt:List UInt8) (tg ng:Bool) (K N:Int) (ht:AT r=⟨kk,tt,tg⟩) (hK:(kk.toNat:Int)=K) (hn:F1 r=⟨nk,nt,ng⟩) (hN:(nk.toNat:Int)=N) (hk0:kk≠0) (hpass:(N == 58)=false\/(N=58/\ng=false)) (x y:List UInt8) (hcut:Fg tt [45]=(x,y,true)) (hxs:x.length<=1000) (hK4:K=114) (h1:Di x=A0) :
  Af A8 301 #[.pointer (A3 ⟨g,0,A0⟩)] w fun e w'=>e=.panicked [{ v:=EX,recovered:=false }]/\AF g w w':=by
 have hk1:=zgd;have htok:=hP.tok hk1;rw[ht]at htok;simp only at htok;have hsz:=zmm;have hte:=zfl;have hsl:=hP.suf.length_le;have hll:=hP.len;have L0:=zw;have L1:=zbi;obtain⟨ta,tc,kg,_,_⟩:=hP.blk;obtain⟨A,hA⟩:=zap;rw[hA]at kg;have HAA:=zcf;have hA1:=ze;have hw1:=zag;have hgl:=hP.lt;have hP0:=zr;have KG:=J kg;clear kg;have HA1:=J hA1;clear hA1;have HV:=J htok.1;clear htok;have HTE:=J hte;clear hte;have HPP:=J hP;clear hP;clear ht hn hK hN hk0 hA hk1;have CUT:=zlq;have Y1:=fun w h=>year_none h1 hxs w h;clear hcut h1 hxs;exact yd4
theorem years_n2 (g:Nat) (l r:List AM) (w:Ab) (hP:B1 g l r w) (kk nk:UInt8) (tt nt:List UInt8) (tg ng:Bool) (K N:Int) (ht:AT r=⟨kk,tt,tg⟩) (hK:(kk.toNat:Int)=K) (hn:F1 r=⟨nk,nt,ng⟩) (hN:(nk.toNat:Int)=N) (hk0:kk≠0) (hpass:(N == 58)=false\/(N=58/\ng=false)) (x y:List UInt8) (hcut:Fg tt [45]=(x,y,true)) (hxs:x.length<=1000) (hys:y.length<=1000) (hK4:K=114) (m:Nat) (h1:Di x=A3 m) (h2:Di y=A0) :
  Af A8 301 #[.pointer (A3 ⟨g,0,A0⟩)] w fun e w'=>e=.panicked [{ v:=EX,recovered:=false }]/\AF g w w':=by
 have hk1:=zgd;have htok:=hP.tok hk1;rw[ht]at htok;simp only at htok;have hsz:=zmm;have hte:=zfl;have hsl:=hP.suf.length_le;have hll:=hP.len;have L0:=zw;have L1:=zbi;obtain⟨ta,tc,kg,_,_⟩:=hP.blk;obtain⟨A,hA⟩:=zap;rw[hA]at kg;have HAA:=zcf;have hA1:=ze;have hw1:=zag;have hgl:=hP.lt;have hP0:=zr;have KG:=J kg;clear kg;have HA1:=J hA1;clear hA1;have HV:=J htok.1;clear htok;have HTE:=J hte;clear hte;have HPP:=J hP;clear hP;clear ht hn hK hN hk0 hA hk1;have CUT:=zlq;have Y1:=fun w h=>year_some h1 hxs w h;have Y2:=fun w h=>year_none h2 hys w h;clear hcut h1 h2 hxs hys;exact yd4
theorem years_ok (g:Nat) (l r:List AM) (w:Ab) (hP:B1 g l r w) (kk nk:UInt8) (tt nt:List UInt8) (tg ng:Bool) (K N:Int) (ht:AT r=⟨kk,tt,tg⟩) (hK:(kk.toNat:Int)=K) (hn:F1 r=⟨nk,nt,ng⟩) (hN:(nk.toNat:Int)=N) (hk0:kk≠0) (hpass:(N == 58)=false\/(N=58/\ng=false)) (x y:List UInt8) (hcut:Fg tt [45]=(x,y,true)) (hxs:x.length<=1000) (hys:y.length<=1000) (hK4:K=114) (m:Nat) (h1:Di x=A3 m) (n:Nat) (h2:Di y=A3 n) :
  Af A8 301 #[.pointer (A3 ⟨g,0,A0⟩)] w fun e w'=>DU g l (A3 (.mk 4 0 [] m n [],r.tail)) w e w':=by
 have hk1:=zgd;have htok:=hP.tok hk1;rw[ht]at htok;simp only at htok;have hsz:=zmm;have hte:=zfl;have hsl:=hP.suf.length_le;have hll:=hP.len;have L0:=zw;have L1:=zbi;obtain⟨ta,tc,kg,_,_⟩:=hP.blk;obtain⟨A,hA⟩:=zap;rw[hA]at kg;have HAA:=zcf;have hA1:=ze;have hw1:=zag;have hgl:=hP.lt;have hP0:=zr;have KG:=J kg;clear kg;have HA1:=J hA1;clear hA1;have HV:=J htok.1;clear htok;have HTE:=J hte;clear hte;have HPP:=J hP;clear hP;clear ht hn hK hN hk0 hA hk1;have CUT:=zlq;have Y1:=fun w h=>year_some h1 hxs w h;have Y2:=fun w h=>year_some h2 hys w h;clear hcut h1 h2 hxs hys;exact yd4
end
namespace Qr
theorem words_n (t:List UInt8):(wordsB t).length=(Bl t).length:=by unfold wordsB;rw[List.length_map]
theorem word0_k {r:List Tok}{kk:UInt8}{tt:List UInt8}{tg:Bool} (ht:lk r=⟨kk,tt,tg⟩) (h:word0 r=true):kk=113\/kk=114:=by
 unfold word0 at h;rw[ht]at h;simp only[DS,Bu,beq_iff_eq]at h;rcases h with h | h
 ·exact .inl h
 ·exact .inr h.1
theorem glue_eq {r:List Tok}{kk nk c:UInt8}{tt nt:List UInt8}{tg ng:Bool} (ht:lk r=⟨kk,tt,tg⟩) (hn:lk1 r=⟨nk,nt,ng⟩):glue c r=(kk == 114&&nk == c&&ng):=by
 unfold glue;rw[ht,hn]
theorem k_eq {kk c:UInt8}:((kk.toNat:Int) == (c.toNat:Int))=(kk == c):=by
 rw[Bool.eq_iff_iff,beq_iff_eq,beq_iff_eq];exact⟨fun h=>EF.1 oQ,fun h=>by rw[h]⟩
theorem no_glue {kk nk c:UInt8}{ng:Bool} (hk:kk=113\/kk=114) (h:(kk == 114&&nk == c&&ng)=false):((kk.toNat:Int) == 114)=false\/((kk.toNat:Int)=114/\((nk.toNat:Int) == (c.toNat:Int))=false)\/((kk.toNat:Int)=114/\(nk.toNat:Int)=(c.toNat:Int)/\ng=false):=by
 rcases hk with rfl | rfl
 ·exact .inl rfl
 ·by_cases hc:nk=c
  ·subst hc;refine .inr (.inr ⟨rfl,rfl,?_⟩);simpa using h
  ·exact .inr (.inl ⟨rfl,by rw[k_eq];exact beq_eq_false_iff_ne.2 hc⟩)
end Qr
theorem term_c (g:Nat) (l r:List AM) (w:Ab) (hP:B1 g l r w) (hw:DM r=true) :
  Af A8 303 #[.pointer (A3 ⟨g,0,A0⟩)] w (DU g l (D7 true 0 r) w):=by
 obtain⟨⟨kk,tt,tg⟩,ht⟩:=zgn;obtain⟨⟨nk,nt,ng⟩,hn⟩:=zrw;have hk:=Qr.word0_k ht hw;have hk0:=zqk;by_cases h58:Ho 58 r=true
 ·have e:D7 true 0 r=A0:=by unfold D7;rw[if_neg eW,if_pos (by simp[h58])]
  rw[e];exact (term_glue g l r w hP h58).mono fun e w' ⟨h1,h2⟩=>⟨h1,.of_below h2⟩
 ·have h58':Ho 58 r=false:=by simpa using h58
  have hp:=h58';rw[Qr.glue_eq ht hn]at hp;have hpass:=Qr.no_glue (c:=58) hk hp;by_cases hx:Bp tt=[]
  ·have e:D7 true 0 r=A0:=by unfold D7;rw[if_neg eW,if_neg (by simp[h58']),if_pos (by rw[ht];exact Qr.words_nil.1 hx)]
   rw[e];exact term_nil g l r w hP kk nk tt nt tg ng _ _ ht rfl hn rfl hk0 hpass hx
  ·have hx':¬ Bl (AT r).t=[]:=by rw[ht];exact fun h=>hx (Qr.words_nil.2 h)
   by_cases h42:Ho 42 r=true
   ·have e:D7 true 0 r=if 1<(Bp tt).length then A0 else A3 (.mk 2 0 (Bp tt) 0 0 [],r.tail.tail):=by
     unfold D7;rw[if_neg eW,if_neg (by simp[h58']),if_neg hx',if_pos h42,Qr.words_n,ht]
    rw[e];rw[Qr.glue_eq ht hn]at h42;simp only[Bu,beq_iff_eq]at h42;obtain⟨⟨rfl,rfl⟩,rfl⟩:=h42;exact term_star g l r w hP 114 42 tt nt tg true _ _ ht rfl hn rfl hk0 oX ⟨rfl,rfl,rfl⟩ hx
   ·have h42':Ho 42 r=false:=by simpa using h42
    have hq:=h42';rw[Qr.glue_eq ht hn]at hq
    have e:D7 true 0 r=A3 (.mk (if (kk.toNat:Int)=114/\(Bp tt).length=1 then 1 else 3) 0 (Bp tt) 0 0 [],r.tail):=by
     unfold D7;rw[if_neg eW,if_neg (by simp[h58']),if_neg hx',if_neg h42,ht];rcases hk with rfl | rfl
     ·rw[if_neg oZ,if_neg oZ]
     ·by_cases h1:(Bl tt).length=1
      ·rw[if_pos ⟨rfl,h1⟩,if_pos ⟨rfl,by rw[Qr.words_n];exact h1⟩]
      ·rw[if_neg (fun h=>h1 h.2),if_neg (fun h=>h1 (by rw[<- Qr.words_n];exact h.2))]
    rw[e];exact term_plain g l r w hP kk nk tt nt tg ng _ _ ht rfl hn rfl hk0 hpass hx (Qr.no_glue (c:=42) hk hq)
theorem years_c (g:Nat) (l r:List AM) (w:Ab) (hP:B1 g l r w) (hw:DM r=true) :
    Af A8 301 #[.pointer (A3 ⟨g,0,A0⟩)] w (DU g l (Ck true r) w):=by
  obtain⟨⟨kk,tt,tg⟩,ht⟩:=zgn;obtain⟨⟨nk,nt,ng⟩,hn⟩:=zrw;have hk:=Qr.word0_k ht hw;have hk0:=zqk;have htl:=(hP.tok (Qr.word0_ne hw)).2;rw[ht]at htl;simp only at htl;by_cases hg:nk=58/\ng=true
  · have e:Ck true r=A0:=by unfold Ck;rw[if_pos (by rw[hn];simp[hg.1,hg.2])]
    rw[e];exact years_glue g l r w hP kk nk tt nt tg ng _ _ ht rfl hn rfl hk0 (by rw[hg.1];rfl) hg.2
  · have hpass:((nk.toNat:Int) == 58)=false\/((nk.toNat:Int)=58/\ng=false):=by
      by_cases h1:nk=58
      · exact .inr ⟨by rw[h1];rfl,by cases ng <;> simp_all⟩
      · exact .inl (by rw[show (58:Int)=((58:UInt8).toNat:Int) from rfl,Qr.k_eq];exact beq_eq_false_iff_ne.2 h1)
    have hg':¬ ((true&&(F1 r).k == 58&&(F1 r).g)=true):=by
      rw[hn];intro h;simp only[Bu,beq_iff_eq]at h;exact hg ⟨h.1.2,h.2⟩
    have hcut:=Qr.cut_one 45 tt;rcases hk with rfl | rfl
    · have e:Ck true r=A0:=by unfold Ck;rw[if_neg hg',if_pos (by rw[ht];simp only;decide)]
      rw[e];exact years_bad g l r w hP 113 nk tt nt tg ng _ _ ht rfl hn rfl hk0 hpass _ _ _ (show Fg tt [45]=((Fg tt [45]).1,(Fg tt [45]).2.1,(Fg tt [45]).2.2) from rfl) (.inl rfl)
    · have e0:Ck true r=match Sp.cut 45 tt with
          | none=>A0
          | some (x,y)=>match Di x,Di y with
            | some m,A3 n=>A3 (.mk 4 0 [] m n [],r.tail)
            | _,_=>A0:=by unfold Ck;rw[if_neg hg',if_neg (by rw[ht];simp),ht];rfl
      cases hc:Sp.cut 45 tt with
      | none =>
        rw[hc]at hcut e0;rw[e0];exact years_bad g l r w hP 114 nk tt nt tg ng _ _ ht rfl hn rfl hk0 hpass _ _ _ hcut (.inr ⟨rfl,rfl⟩)
      | some p =>
        obtain⟨x,y⟩:=p;rw[hc]at hcut e0;have hxy:=Sp.cut_len hc;cases h1:Di x with
        | none =>
          rw[show Ck true r=A0 by rw[e0];simp only[h1]];exact years_n1 g l r w hP 114 nk tt nt tg ng _ _ ht rfl hn rfl hk0 hpass x y hcut oQ rfl h1
        | some m =>
          cases h2:Di y with
          | none =>
            rw[show Ck true r=A0 by rw[e0];simp only[h1,h2]];exact years_n2 g l r w hP 114 nk tt nt tg ng _ _ ht rfl hn rfl hk0 hpass x y hcut oQ oQ rfl m h1 h2
          | some n =>
            rw[show Ck true r=A3 (.mk 4 0 [] m n [],r.tail) by rw[e0];simp only[h1,h2]];exact years_ok g l r w hP 114 nk tt nt tg ng _ _ ht rfl hn rfl hk0 hpass x y hcut oQ oQ rfl m h1 n h2
theorem names_c (w:Ab):Af A8 302 #[] w fun e w'=>e=.returned (.slice (A3 ⟨w.heap.size,0,A0⟩) 5 5)/\w'=w.alloc (.cells #[.string ⟨#[97,110,121]⟩,.string ⟨#[116,105]⟩,.string ⟨#[97,117]⟩,.string ⟨#[115,117]⟩,.string ⟨#[110,117]⟩] 9):=by
 go_enter Tryz.func302,Tryz.ntmps302;go_wp2;go_ret;exact⟨rfl,rfl⟩
section
attribute [local go_sem] G3 G4 G5
theorem u7o (h:P:=by
 go_enter DY,DB
 go_wp2_with (first
  |(go_at_call 301;refine (years_c g l _ _ hP7 HW2.out).mono ?_;rintro e w4 h4;rw[HX.out]at h4;clear hP4 hF4;obtain⟨qo,qf,qa,qb,qsa,qsn,qsc,qka,qkn,qkc,rfl,hq4,hP4,hF4⟩:=h4.get;have s4x:=hF4.size;skip;have kR4:=(hF4.block w.heap.size oQ (by first | omega | (simp;omega))).trans KR7.out;have hF4':=hF7.trans hF4;obtain⟨z0,z1,z2,z3,z4,z5,fr9⟩:=Tx.c6 kR4;obtain⟨ta4,tc4,kg4,_,_⟩:=hP4.blk;have KP4:=J kg4;clear kg4 kR4)
  |(go_at_call 301;refine (years_c g l _ _ hP7 HW2.out).mono ?_;rintro e w8 h8;rw[HX.out]at h8;obtain⟨rfl,hF8⟩:=h8.bad;have hF8':=hF7.trans hF8)
  |(go_at_call 302;refine (names_c _).mono ?_;rintro e w8 ⟨rfl,rfl⟩;have ew7:=A9 w7 (.cells #[.string ⟨#[97,110,121]⟩,.string ⟨#[116,105]⟩,.string ⟨#[97,117]⟩,.string ⟨#[115,117]⟩,.string ⟨#[110,117]⟩] 9);have KT8:=J (A6 KT7.out ew7);have KR8:=J (A6 KR7.out ew7);have hF8:=hF7.trans (.of_below ew7);have hP8:=hP7.below ew7;have KN8:=J (Tx.han ew7);have s8:(w7.alloc (.cells #[.string ⟨#[97,110,121]⟩,.string ⟨#[116,105]⟩,.string ⟨#[97,117]⟩,.string ⟨#[115,117]⟩,.string ⟨#[110,117]⟩] 9)).heap.size=w7.heap.size+1:=oZ)
  |(go_at_call 252;refine (L2 _ hP6).mono ?_;rintro e w7 ⟨rfl,hb7⟩;have s7:=hb7.size;have KT7:=J (A6 KT6.out hb7);have KR7:=J (A6 KR6.out hb7);have hF7:=hF6.trans (.of_below hb7);have hP7:=hP6.below hb7;obtain⟨-,e71,-⟩:=Tx.c2 KT7.out)
  |(go_at_call 251;refine (begins_c g l _ _ hP5).mono ?_;rintro e w6 ⟨rfl,hb6⟩;have s6:=hb6.size;have KT6:=J (A6 KT5.out hb6);have KR6:=J (A6 KR5.out hb6);have hF6:=hF5.trans (.of_below hb6);have hP6:=hP5.below hb6;rw[HB2.out])
  |(go_at_call 252;refine (L2 _ hP4).mono ?_;rintro e w5 ⟨rfl,hb5⟩;have s5:=hb5.size;have KT5:=J (A6 KT4.out hb5);have KR5:=J (A6 KR4.out hb5);have hF5:=hF4.trans (.of_below hb5);have hP5:=hP4.below hb5;clear eg fg eg3 fg3 e30)
  |(go_at_call 252;refine (L1 _ hP2).mono ?_;rintro e w3 ⟨he,hb3⟩;have ew3:=Tx.nr he w3;subst he;have s3:=hb3.size;simp only[An]at s3;have kT3:=zkf;have kg3:=zkg;have kR3:=zkh;have hF3:=ziu;have hP3:=(hP2.below hb3).below ew3;obtain⟨e30,-⟩:=Tx.c1 kT3;obtain⟨-,eg3,fg3⟩:=Tx.c2 kg3;have KT3:=J kT3;have KG3:=J kg3;have KR3:=zrm;clear kT3 kg3 kR3;have kg4:=BL KG3.out (.int .i64 ((A:Int)+2));have hF4:=hF3.set1 (.int .i64 ((A:Int)+2));have hP4:=BD HPP.out KG.out hF4 HTT.out.1 kg4 HA2.out;have kR4:=As (a:=⟨g,1,A0⟩) KR3.out (show w.heap.size≠g by omega) (.int .i64 ((A:Int)+2));have kT4:=As (a:=⟨g,1,A0⟩) KT3.out (show w2.heap.size≠g by omega) (.int .i64 ((A:Int)+2));have s4:((w3.alloc (.cells #[.int .u8 58,.string ⟨nt.toArray⟩,.bool true] 205)).setCell ⟨g,1,A0⟩ (.int .i64 ((A:Int)+2))).heap.size=w3.heap.size+1:=eX;have KR4:=J kR4;have KT4:=J kT4;clear kg4 kR4 kT4)
  |(go_at_call 252;refine (L0 _ hP1).mono ?_;rintro e w2 ⟨he,hb2⟩;have ew2:=zps;subst he;have s2:=hb2.size;have kT2:=Tx.han ew2;have kg2:=zey;have kR2:=zez;have hF2:=zds;have hP2:=zkt;obtain⟨-,eg,fg⟩:=zpo;have KT2:=J kT2;have KG2:=zpt;have KR2:=J kR2;clear kT2 kg2 kR2;have kg3:=BL KG2.out (.int .i64 ((A:Int)+1));have hF3:=zko;have hPS3:=zga;have KR3:=J (As (a:=⟨g,1,A0⟩) KR2.out (show w.heap.size≠g by omega) (.int .i64 ((A:Int)+1)));have s3:((w2.alloc (.cells #[.int .u8 40,.string ⟨tt.toArray⟩,.bool tg] 205)).setCell ⟨g,1,A0⟩ (.int .i64 ((A:Int)+1))).heap.size=w2.heap.size+1:=eX;clear kg3)
  |(go_at_call 252;refine (L0 _ hP1).mono ?_;rintro e w2 ⟨rfl,hb2⟩;have s2:=hb2.size;have ew2:=A9 w2 (.cells #[.int .u8 114,.string ⟨([121,101,97,114]:List UInt8).toArray⟩,.bool tg] 205);have kT2:=Tx.han ew2;have kg2:=zey;have kR2:=zez;have hF2:=zds;have hP2:=zkt;obtain⟨-,eg,fg⟩:=zpo;have KT2:=J kT2;have KG2:=zpt;have KR2:=J kR2;clear kT2 kg2 kR2)
  |(go_at_call 252;refine (L5 _ (hP4.below (A9 _ _))).mono ?_;rintro e w5 ⟨rfl,hb5⟩;have s5:=hb5.size;simp only[An]at s5;obtain⟨ta4,tc4,kg4,_,_⟩:=hP4.blk;have KP4:=J kg4;rw[HA5.out]at kg4;have kg5:=A6 (A6 kg4 (A9 _ _)) hb5;have kR5:=A6 (A6 KR4.out (A9 _ _)) hb5;have kQ5:=A6 (Ae w4 _) hb5;have hF5:AF g w4 w5:=((Bh g w4).alloc _).trans (.of_below hb5);obtain⟨-,e5,f5⟩:=Tx.c2 kg5;have fr5:=(Tx.blk kR5).2.1;obtain⟨y0,y1,y2,y3,y4,y5⟩:=Tx.f6 kR5 (show w.heap.size≠g by omega);obtain⟨x0,x1,x2,x3,x4,x5⟩:=Tx.f6 kQ5 (show w4.heap.size≠g by omega);have KG5:=J kg5;clear kg4 kg5 kR5 kQ5)
  |(go_at_call 117;refine (hOr _ hPS3).mono ?_;rintro e w4 h4;rw[HO.out]at h4;obtain⟨qo,qf,qa,qb,qsa,qsn,qsc,qka,qkn,qkc,rfl,hq4,hP4,hF4⟩:=h4.get;have s4:=hF4.size;have KR4:=J ((hF4.block w.heap.size oQ oQ).trans KR3.out);have hF4':=hF3.trans hF4;clear eg fg)
  |(go_at_call 117;refine (hOr _ hPS3).mono ?_;rintro e w4 h4;rw[HO.out]at h4;obtain⟨rfl,hF4⟩:=h4.bad;have hF4':=hF3.trans hF4)
  |(go_at_call 252;refine (L0 _ hP1).mono ?_;rintro e w2 ⟨he,hb2⟩;have ew2:=zps;subst he;have s2:=hb2.size;have kT2:=Tx.han ew2;have kg2:=zey;have kR2:=zez;have hF2:=zds;have hP2:=zkt;obtain⟨-,eg,fg⟩:=zpo;have KT2:=J kT2;have KG2:=zpt;have KR2:=J kR2;clear kT2 kg2 kR2)
  |(go_at_call 251;refine (begins_c g l r _ hP0).mono ?_;rintro e w1 ⟨rfl,hb1⟩;rw[HB.out];have hP1:=zng;have s1:=zbc;have KG1:=zgi;have KR1:=zcd;have hF1:=zgo))
 first
  |have hsame:∃ W9,W9=(w7.alloc (.cells #[.string ⟨#[97,110,121]⟩,.string ⟨#[116,105]⟩,.string ⟨#[97,117]⟩,.string ⟨#[115,117]⟩,.string ⟨#[110,117]⟩] 9)):=⟨_,rfl⟩
   obtain⟨W9,hW9⟩:=hsame;have KT9:Hid (W9.heap[w2.heap.size]?=A3 (.cells #[.int .u8 114,.string ⟨tt.toArray⟩,.bool tg] 205 (0,0))):=J (by rw[hW9];exact KT8.out);have KR9:Hid (W9.heap[w.heap.size]?=A3 (.cells AO 29 (0,0))):=J (by rw[hW9];exact KR8.out);have KN9:Hid (W9.heap[w7.heap.size]?=A3 (.cells #[.string ⟨#[97,110,121]⟩,.string ⟨#[116,105]⟩,.string ⟨#[97,117]⟩,.string ⟨#[115,117]⟩,.string ⟨#[110,117]⟩] 9 (0,0))):=J (by rw[hW9];exact KN8.out);have hF9:AF g w W9:=by rw[hW9];exact hF8
   have hP9:B1 g l r.tail.tail W9:=by rw[hW9];exact hP8
   have s9:W9.heap.size=w7.heap.size+1:=by rw[hW9];exact s8
   rw[<- hW9];clear hW9 KT8 KR8 KN8 hF8 hP8 s8;go_loopw [87] (fun i wr=>∃ k:Nat,k<=5/\i=.int .i64 k/\Hid (∀ x∈Qr.nms.take k,x≠tt)/\wr=W9) (fun i _=>5 - (intOf i).toNat)
   case atStart=>exact⟨0,oQ,rfl,J oZ,rfl⟩
   case round =>
    obtain⟨k,hk,rfl,hne,hwr⟩:=hrel;have hwr':W9=wr:=hwr.symm;clear hwr;subst hwr';obtain⟨-,et,-⟩:=Tx.c2 KT9.out;by_cases hlt:k<5
    ·obtain⟨x,hx⟩:∃ x,Qr.nms[k]?=A3 x:=⟨_,List.getElem?_eq_getElem (by show k<5;exact hlt)⟩;have ex:=Qr.nms_cell KN9.out hx;by_cases hxt:x=tt
     ·have hxt':tt=x:=hxt.symm;clear hxt;subst hxt';have HF:Hid (GA tt=A3 (k:Int)):=J (Qr.fieldOf_at hx);clear hx;cases hT:D7 true 0 r.tail.tail with
      | none =>
       have HT:=J hT;clear hT;have HXN:Hid (X=A0):=J QJ
       go_wp2_with (first
        |(go_at_call 303;refine (term_c g l _ W9 hP9 HW2.out).mono ?_;rintro e w10 h10;rw[HT.out]at h10;obtain⟨rfl,hF10⟩:=h10.bad;have hF10':=hF9.trans hF10))
       refine⟨rfl,?_⟩;rw[HXN.out];exact⟨rfl,hF10'⟩
      | some p =>
       obtain⟨q,r'⟩:=p;have HT:=J hT;clear hT;have HXN:Hid (X=A3 (q.withF k,r')):=J QJ
       go_wp2_with (first
        |(go_at_call 303;refine (term_c g l _ W9 hP9 HW2.out).mono ?_;rintro e w10 h10;rw[HT.out]at h10;obtain⟨qo,qf,qa,qb,qsa,qsn,qsc,qka,qkn,qkc,rfl,hq10,hP10,hF10⟩:=h10.get;have s10:=hF10.size;have hF10':=hF9.trans hF10;have kR10:=(hF10.block w.heap.size oQ oQ).trans KR9.out;have ew10:=A9 w10 (.cells #[.int .i64 qo,.int .i64 (k:Int),.slice qsa qsn qsc,.int .i64 qa,.int .i64 qb,.slice qka qkn qkc] 29);have kR11:=A6 kR10 ew10;obtain⟨z0,z1,z2,z3,z4,z5,fr11⟩:=Tx.c6 kR11;obtain⟨ta4,tc4,kg4,_,_⟩:=hP10.blk;have KP4:=J kg4;clear kg4 kR10 kR11))
       refine Aw (v:=.agg #[.int .i64 qo,.int .i64 k,.slice qsa qsn qsc,.int .i64 qa,.int .i64 qb,.slice qka qkn qkc]) qD rfl ?_;rw[HXN.out];exact⟨⟨qo,k,qsa,qsn,qsc,qa,qb,qka,qkn,qkc⟩,rfl,((hq10.setF k).kp (Dp (Bc (A9 w10 _)) oQ _ _ _ _ _ _)).mono oQ,GK hP10 KP4.out (DK ((Ah _ _).alloc oQ _) oQ _ _ _ _ _ _) (Bv _) (EL (A6 KP4.out (A9 w10 _)) (show g≠w.heap.size by omega) _ _ _ _ _ _) rfl,Cc (hF10'.alloc _) (Ad _) _ _ _ _ _ _⟩
     ·have hxb:(x == tt)=false:=beq_eq_false_iff_ne.2 hxt
      have HN2:Hid (∀ y∈Qr.nms.take (k+1),y≠tt):=J (by
       rw[Qr.take_snoc hx];intro y hy;rw[List.mem_append,List.mem_singleton]at hy;rcases hy with hy | rfl
       ·exact hne.out y hy
       ·exact hxt)
      clear hx;go_wp2;go_roundw
      case rel=>exact⟨k+1,oQ,by go_num,HN2,trivial⟩
      case measure=>simp[intOf];omega
    ·have hkk:k=5:=oQ;subst hkk;have HXN:Hid (X=A0):=J (by rw[HX.out,Qr.fieldOf_none (fun x hx=>hne.out x hx)]);go_wp2;refine⟨rfl,?_⟩;rw[HXN.out];exact⟨rfl,hF9⟩
  |refine Aw (v:=.agg #[.int .i64 qo,.int .i64 qf,.slice qsa qsn qsc,.int .i64 qa,.int .i64 qb,.slice qka qkn qkc]) (by simp[results,Tryz.results287,go_sem,y0,y1,y2,y3,y4,y5]) rfl ⟨⟨qo,qf,qsa,qsn,qsc,qa,qb,qka,qkn,qkc⟩,rfl,?_,?_,(Cc ((hF4'.trans hF5).set rfl _) (Ad _) _ _ _ _ _ _)⟩
   ·exact (hq4.kp ((Qr.Kp.fr (hF5.set rfl _) oQ).trans (Dp (Dn _ _) oQ _ _ _ _ _ _))).mono oQ
   ·exact GK hP4 KP4.out (DK ((hF5.set rfl _).below (Ad _) hP4.lt) oQ _ _ _ _ _ _) HT5.out.1 (EL (BL KG5.out _) (show g≠w.heap.size by omega) _ _ _ _ _ _) HA6.out
  |refine Aw (v:=.agg #[.int .i64 qo,.int .i64 qf,.slice qsa qsn qsc,.int .i64 qa,.int .i64 qb,.slice qka qkn qkc]) qD rfl ⟨⟨qo,qf,qsa,qsn,qsc,qa,qb,qka,qkn,qkc⟩,rfl,(hq4.kp (Dp (Dn _ _) oQ _ _ _ _ _ _)).mono oQ,GK hP4 KP4.out (DK (Ah _ _) oQ _ _ _ _ _ _) (Bv _) (EL KP4.out (show g≠w.heap.size by omega) _ _ _ _ _ _) rfl,Cc hF4' (Ad _) _ _ _ _ _ _⟩
  |exact⟨rfl,rfl,(hF4'.trans hF5)⟩
  |exact⟨rfl,rfl,hF4'⟩
  |exact⟨rfl,rfl,hF8'⟩
  |exact⟨rfl,rfl,hF1⟩
  |exact⟨rfl,rfl,hF5⟩
  |exact⟨rfl,rfl,hF6⟩
  |exact⟨rfl,rfl,hF7⟩):P:=h
theorem prim_bad (g:Nat) (l r:List AM) (w:Ab) (hP:B1 g l r w) (hb:Dg r=false) :
  Af A8 287 #[.pointer (A3 ⟨g,0,A0⟩)] w fun e w'=>e=.panicked [{ v:=EX,recovered:=false }]/\AF g w w':=by
 have hsl:=hP.suf.length_le;have hll:=hP.len;have hgl:=hP.lt;obtain⟨ta,tc,kg,_,_⟩:=hP.blk;obtain⟨A,hA⟩:=zap;rw[hA]at kg;have hP0:=zr;have KG:=J kg;clear kg;have HPP:=J hP;clear hP;have HB:=J hb;clear hb;exact u7o
theorem vav (h:P:=by
 have hsl:=hP.suf.length_le;have hll:=hP.len;have hgl:=hP.lt;obtain⟨ta,tc,kg,_,_⟩:=hP.blk;obtain⟨A,hA⟩:=zap;rw[hA]at kg;have hP0:=zr;have KG:=J kg;clear kg;have HPP:=J hP;clear hP;have hk1:=zna;have hte:=zfl;have L0:=zw;have HB:=J hb;clear hb;have HTE:=J hte;clear hk1;have hA1:=ze;have hw1:=zag;have HA1:=J hA1;clear hA1 hte ht hK;subst h40;have HO:=J ho;clear ho
 first
  |guard_hyp K5;have L5:=fun w h=>look0 (K:=K5) (w:=w) (g:=g) (l:=l) ht5 hK5 h
   obtain⟨A5,hA5⟩:∃ A5,l.length - r'.length=A5:=⟨_,rfl⟩;have hw5:=zpg;have HA5:=J hA5
   first
    |guard_hyp hr';have hte5:=EQ (r:=r') (by rw[ht5];show k5≠0;rw[h41];decide)
     have hA6:(A5:Int)+1=((l.length - r'.tail.length:Nat):Int):=by
      have h1:=hte5.2;have h2:=hr'.length_le;rw[Cl]at h1 ⊢;omega
     have HA6:=J hA6;have HT5:=J hte5;have h9:K5=41:=by rw[<- hK5,h41];rfl
     clear ht5 hK5 h41 hA5 hA6 hte5;subst h9;exact u7o
    |have n1:(K5 == 41)=false:=by rw[<- hK5,show (41:Int)=((41:UInt8).toNat:Int) from rfl,Qr.k_eq];exact beq_eq_false_iff_ne.2 h41
     have n2:(K5 != 41)=true:=by rw[bne,n1];rfl
     have n3:¬ K5=41:=beq_eq_false_iff_ne.1 n1;clear ht5 hK5 h41 hA5;exact u7o
  |exact u7o):P:=h
theorem prim_par_none (g:Nat) (l r:List AM) (w:Ab) (hP:B1 g l r w) (kk:UInt8) (tt:List UInt8) (tg:Bool) (K:Int) (ht:AT r=⟨kk,tt,tg⟩) (hK:(kk.toNat:Int)=K) (hb:Dg r=true) (h40:K=40) (x:I6) (hOr:∀ w,B1 g l r.tail w->Af A8 117 #[.pointer (A3 ⟨g,0,A0⟩)] w (DU g l x w)) (ho:x=A0) :
  Af A8 287 #[.pointer (A3 ⟨g,0,A0⟩)] w fun e w'=>e=.panicked [{ v:=EX,recovered:=false }]/\AF g w w':=by
 exact vav
theorem vet (h:P:=by
 exact vav):P:=h
theorem prim_par_bad (g:Nat) (l r:List AM) (w:Ab) (hP:B1 g l r w) (kk:UInt8) (tt:List UInt8) (tg:Bool) (K:Int) (ht:AT r=⟨kk,tt,tg⟩) (hK:(kk.toNat:Int)=K) (hb:Dg r=true) (h40:K=40) (x:I6) (hOr:∀ w,B1 g l r.tail w->Af A8 117 #[.pointer (A3 ⟨g,0,A0⟩)] w (DU g l x w)) (q:Cq) (r':List AM) (ho:x=A3 (q,r')) (k5:UInt8) (t5:List UInt8) (g5:Bool) (K5:Int) (ht5:AT r'=⟨k5,t5,g5⟩) (hK5:(k5.toNat:Int)=K5) (h41:k5≠41) :
  Af A8 287 #[.pointer (A3 ⟨g,0,A0⟩)] w fun e w'=>e=.panicked [{ v:=EX,recovered:=false }]/\AF g w w':=by
 exact vet
theorem prim_par_ok (g:Nat) (l r:List AM) (w:Ab) (hP:B1 g l r w) (kk:UInt8) (tt:List UInt8) (tg:Bool) (K:Int) (ht:AT r=⟨kk,tt,tg⟩) (hK:(kk.toNat:Int)=K) (hb:Dg r=true) (h40:K=40) (x:I6) (hOr:∀ w,B1 g l r.tail w->Af A8 117 #[.pointer (A3 ⟨g,0,A0⟩)] w (DU g l x w)) (q:Cq) (r':List AM) (ho:x=A3 (q,r')) (k5:UInt8) (t5:List UInt8) (g5:Bool) (K5:Int) (ht5:AT r'=⟨k5,t5,g5⟩) (hK5:(k5.toNat:Int)=K5) (hr':r' <:+ r) (h41:k5=41) :
  Af A8 287 #[.pointer (A3 ⟨g,0,A0⟩)] w fun e w'=>DU g l (A3 (q,r'.tail)) w e w':=by
 exact vet
end
section
attribute [local go_sem] G3 G4 G5
theorem y55 (h:P:=by
 go_enter DY,DB
 go_wp2_with (first
  |(go_at_call 303;refine (term_c g l r _ hP3 HW.out).mono ?_;rintro e w4 h4;rw[HX.out]at h4;obtain⟨rfl,hF4⟩:=h4.bad;have hF4':=hF3.trans hF4)
  |(go_at_call 252;refine (L1 _ hP2).mono ?_;rintro e w3 ⟨he,hb3⟩;have ew3:=Tx.nr he w3;subst he;have s3:=hb3.size;simp only[An]at s3;have kT3:=zkf;have kg3:=zkg;have kR3:=zkh;have hF3:=ziu;have hP3:=(hP2.below hb3).below ew3;obtain⟨e30,-⟩:=Tx.c1 kT3;obtain⟨-,eg3,fg3⟩:=Tx.c2 kg3;have KT3:=J kT3;have KG3:=J kg3;have KR3:=zrm;clear kT3 kg3 kR3)
  |(go_at_call 252;refine (L0 _ hP1).mono ?_;rintro e w2 ⟨he,hb2⟩;have ew2:=zps;subst he;have s2:=hb2.size;have kT2:=Tx.han ew2;have kg2:=zey;have kR2:=zez;have hF2:=zds;have hP2:=zkt;obtain⟨-,eg,fg⟩:=zpo;have KT2:=J kT2;have KG2:=zpt;have KR2:=J kR2;clear kT2 kg2 kR2)
  |(go_at_call 251;refine (begins_c g l r _ hP0).mono ?_;rintro e w1 ⟨rfl,hb1⟩;rw[HB.out];have hP1:=zng;have s1:=zbc;have KG1:=zgi;have KR1:=zcd;have hF1:=zgo))
 exact⟨rfl,rfl,hF4'⟩):P:=h
theorem yxb (h:P:=by
 clear n40 h40;exact y55):P:=h
theorem prim_dir_none (g:Nat) (l r:List AM) (w:Ab) (hP:B1 g l r w) (kk:UInt8) (tt:List UInt8) (tg:Bool) (K:Int) (ht:AT r=⟨kk,tt,tg⟩) (hK:(kk.toNat:Int)=K) (hb:Dg r=true) (nk:UInt8) (nt:List UInt8) (ng:Bool) (N:Int) (hn:F1 r=⟨nk,nt,ng⟩) (hN:(nk.toNat:Int)=N) (hw:DM r=true) (h40:¬ K=40) (hpass:(K == 114)=false\/(K=114/\(N == 58)=false)\/(K=114/\N=58/\ng=false)) (hx:D7 true 0 r=A0) :
  Af A8 287 #[.pointer (A3 ⟨g,0,A0⟩)] w fun e w'=>e=.panicked [{ v:=EX,recovered:=false }]/\AF g w w':=by
 have hsl:=hP.suf.length_le;have hll:=hP.len;have hgl:=hP.lt;obtain⟨ta,tc,kg,_,_⟩:=hP.blk;obtain⟨A,hA⟩:=zap;rw[hA]at kg;have hP0:=zr;have KG:=J kg;clear kg;have HPP:=J hP;clear hP;have hk1:=zna;have hte:=zfl;have L0:=zw;have HB:=J hb;clear hb;have HTE:=J hte;clear hk1;have hA1:=ze;have hw1:=zag;have HA1:=J hA1;clear hA1 hte ht hK;have L1:=zbi;clear hN hn;have n40:(K == 40)=false:=beq_eq_false_iff_ne.2 h40;have HW:=J hw;clear hw;have HX:=J hx;clear hx;rcases hpass with hp | ⟨rfl,hp⟩ | ⟨rfl,rfl,rfl⟩
 ·exact y55
 ·exact yxb
 ·exact yxb
theorem yvl (h:P:=by
 go_enter DY,DB
 go_wp2_with (first
  |(go_at_call 303;refine (term_c g l r _ hP3 HW.out).mono ?_;rintro e w4 h4;rw[HX.out]at h4;obtain⟨qo,qf,qa,qb,qsa,qsn,qsc,qka,qkn,qkc,rfl,hq4,hP4,hF4⟩:=h4.get;have s4:=hF4.size;simp only[An]at s4;have kR4:=(hF4.block w.heap.size oQ (by first | omega | (simp;omega))).trans KR3.out;have hF4':=hF3.trans hF4;obtain⟨z0,z1,z2,z3,z4,z5,fr9⟩:=Tx.c6 kR4;obtain⟨ta4,tc4,kg4,_,_⟩:=hP4.blk;have KP4:=J kg4;clear kg4 kR4)
  |(go_at_call 252;refine (L1 _ hP2).mono ?_;rintro e w3 ⟨he,hb3⟩;have ew3:=Tx.nr he w3;subst he;have s3:=hb3.size;simp only[An]at s3;have kT3:=zkf;have kg3:=zkg;have kR3:=zkh;have hF3:=ziu;have hP3:=(hP2.below hb3).below ew3;obtain⟨e30,-⟩:=Tx.c1 kT3;obtain⟨-,eg3,fg3⟩:=Tx.c2 kg3;have KT3:=J kT3;have KG3:=J kg3;have KR3:=zrm;clear kT3 kg3 kR3)
  |(go_at_call 252;refine (L0 _ hP1).mono ?_;rintro e w2 ⟨he,hb2⟩;have ew2:=zps;subst he;have s2:=hb2.size;have kT2:=Tx.han ew2;have kg2:=zey;have kR2:=zez;have hF2:=zds;have hP2:=zkt;obtain⟨-,eg,fg⟩:=zpo;have KT2:=J kT2;have KG2:=zpt;have KR2:=J kR2;clear kT2 kg2 kR2)
  |(go_at_call 251;refine (begins_c g l r _ hP0).mono ?_;rintro e w1 ⟨rfl,hb1⟩;rw[HB.out];have hP1:=zng;have s1:=zbc;have KG1:=zgi;have KR1:=zcd;have hF1:=zgo))
 refine Aw (v:=.agg #[.int .i64 qo,.int .i64 qf,.slice qsa qsn qsc,.int .i64 qa,.int .i64 qb,.slice qka qkn qkc]) qD rfl ⟨⟨qo,qf,qsa,qsn,qsc,qa,qb,qka,qkn,qkc⟩,rfl,(hq4.kp (Dp (Dn _ _) oW _ _ _ _ _ _)).mono oW,GK hP4 KP4.out (DK (Ah _ _) oQ _ _ _ _ _ _) (Bv _) (EL KP4.out (show g≠w.heap.size by omega) _ _ _ _ _ _) rfl,Cc hF4' (Ad _) _ _ _ _ _ _⟩):P:=h
theorem yb2 (h:P:=by
 clear n40 h40;exact yvl):P:=h
theorem prim_dir_ok (g:Nat) (l r:List AM) (w:Ab) (hP:B1 g l r w) (kk:UInt8) (tt:List UInt8) (tg:Bool) (K:Int) (ht:AT r=⟨kk,tt,tg⟩) (hK:(kk.toNat:Int)=K) (hb:Dg r=true) (nk:UInt8) (nt:List UInt8) (ng:Bool) (N:Int) (hn:F1 r=⟨nk,nt,ng⟩) (hN:(nk.toNat:Int)=N) (hw:DM r=true) (h40:¬ K=40) (hpass:(K == 114)=false\/(K=114/\(N == 58)=false)\/(K=114/\N=58/\ng=false)) (q:Cq) (r':List AM) (hx:D7 true 0 r=A3 (q,r')) :
  Af A8 287 #[.pointer (A3 ⟨g,0,A0⟩)] w fun e w'=>DU g l (A3 (q,r')) w e w':=by
 have hsl:=hP.suf.length_le;have hll:=hP.len;have hgl:=hP.lt;obtain⟨ta,tc,kg,_,_⟩:=hP.blk;obtain⟨A,hA⟩:=zap;rw[hA]at kg;have hP0:=zr;have KG:=J kg;clear kg;have HPP:=J hP;clear hP;have hk1:=zna;have hte:=zfl;have L0:=zw;have HB:=J hb;clear hb;have HTE:=J hte;clear hk1;have hA1:=ze;have hw1:=zag;have HA1:=J hA1;clear hA1 hte ht hK;have L1:=zbi;clear hN hn;have n40:(K == 40)=false:=beq_eq_false_iff_ne.2 h40;have HW:=J hw;clear hw;have HX:=J hx;clear hx;rcases hpass with hp | ⟨rfl,hp⟩ | ⟨rfl,rfl,rfl⟩
 ·exact yvl
 ·exact yb2
 ·exact yb2
theorem yzh (h:P:=by
 have h1:=HA1.out;have h2:=(EQ hk2).2;have h3:=HTE.out.1.length_le;rw[Cl (l:=r.tail)]at h2 ⊢;omega):P:=h
theorem prim_unglued (g:Nat) (l r:List AM) (w:Ab) (hP:B1 g l r w) (kk:UInt8) (tt:List UInt8) (tg:Bool) (K:Int) (ht:AT r=⟨kk,tt,tg⟩) (hK:(kk.toNat:Int)=K) (hb:Dg r=true) (nk:UInt8) (nt:List UInt8) (ng:Bool) (N:Int) (hn:F1 r=⟨nk,nt,ng⟩) (hN:(nk.toNat:Int)=N) (hK4:K=114) (hN5:N=58) (hg1:ng=true) (k2:UInt8) (t2:List UInt8) (g2:Bool) (K2:Int) (ht2:AT r.tail.tail=⟨k2,t2,g2⟩) (hK2:(k2.toNat:Int)=K2) (hg2:g2=false) :
  Af A8 287 #[.pointer (A3 ⟨g,0,A0⟩)] w fun e w'=>e=.panicked [{ v:=EX,recovered:=false }]/\AF g w w':=by
 have hsl:=hP.suf.length_le;have hll:=hP.len;have hgl:=hP.lt;obtain⟨ta,tc,kg,_,_⟩:=hP.blk;obtain⟨A,hA⟩:=zap;rw[hA]at kg;have hP0:=zr;have KG:=J kg;clear kg;have HPP:=J hP;clear hP;have hk1:=zna;have hte:=zfl;have L0:=zw;have HB:=J hb;clear hb;have HTE:=J hte;clear hk1;have hA1:=ze;have hw1:=zag;have HA1:=J hA1;clear hA1 hte ht hK;subst hK4;subst hN5;subst hg1;have hk2:=zau;have htt:=ziz
 have hA2:(A:Int)+2=((l.length - r.tail.tail.length:Nat):Int):=by
  exact yzh
 have hw2:=zgl;have HA2:=zla;have HTT:=zgb;have L1:=zft;have L2:=zcu;clear hN hn ht2 hK2 hA2 htt hk2;subst hg2;exact u7o
theorem prim_nobeg (g:Nat) (l r:List AM) (w:Ab) (hP:B1 g l r w) (kk:UInt8) (tt:List UInt8) (tg:Bool) (K:Int) (ht:AT r=⟨kk,tt,tg⟩) (hK:(kk.toNat:Int)=K) (hb:Dg r=true) (nk:UInt8) (nt:List UInt8) (ng:Bool) (N:Int) (hn:F1 r=⟨nk,nt,ng⟩) (hN:(nk.toNat:Int)=N) (hK4:K=114) (hN5:N=58) (hg1:ng=true) (k2:UInt8) (t2:List UInt8) (g2:Bool) (K2:Int) (ht2:AT r.tail.tail=⟨k2,t2,g2⟩) (hK2:(k2.toNat:Int)=K2) (hg2:g2=true) (hb2:Dg r.tail.tail=false) :
  Af A8 287 #[.pointer (A3 ⟨g,0,A0⟩)] w fun e w'=>e=.panicked [{ v:=EX,recovered:=false }]/\AF g w w':=by
 have hsl:=hP.suf.length_le;have hll:=hP.len;have hgl:=hP.lt;obtain⟨ta,tc,kg,_,_⟩:=hP.blk;obtain⟨A,hA⟩:=zap;rw[hA]at kg;have hP0:=zr;have KG:=J kg;clear kg;have HPP:=J hP;clear hP;have hk1:=zna;have hte:=zfl;have L0:=zw;have HB:=J hb;clear hb;have HTE:=J hte;clear hk1;have hA1:=ze;have hw1:=zag;have HA1:=J hA1;clear hA1 hte ht hK;subst hK4;subst hN5;subst hg1;have hk2:=zau;have htt:=ziz
 have hA2:(A:Int)+2=((l.length - r.tail.tail.length:Nat):Int):=by
  exact yzh
 have hw2:=zgl;have HA2:=zla;have HTT:=zgb;have L1:=zft;have L2:=zcu;clear hN hn ht2 hK2 hA2 htt hk2;subst hg2;have HB2:=J hb2;clear hb2;exact u7o
theorem prim_par2 (g:Nat) (l r:List AM) (w:Ab) (hP:B1 g l r w) (kk:UInt8) (tt:List UInt8) (tg:Bool) (K:Int) (ht:AT r=⟨kk,tt,tg⟩) (hK:(kk.toNat:Int)=K) (hb:Dg r=true) (nk:UInt8) (nt:List UInt8) (ng:Bool) (N:Int) (hn:F1 r=⟨nk,nt,ng⟩) (hN:(nk.toNat:Int)=N) (hK4:K=114) (hN5:N=58) (hg1:ng=true) (k2:UInt8) (t2:List UInt8) (g2:Bool) (K2:Int) (ht2:AT r.tail.tail=⟨k2,t2,g2⟩) (hK2:(k2.toNat:Int)=K2) (hg2:g2=true) (hb2:Dg r.tail.tail=true) (h40:K2=40) :
  Af A8 287 #[.pointer (A3 ⟨g,0,A0⟩)] w fun e w'=>e=.panicked [{ v:=EX,recovered:=false }]/\AF g w w':=by
 have hsl:=hP.suf.length_le;have hll:=hP.len;have hgl:=hP.lt;obtain⟨ta,tc,kg,_,_⟩:=hP.blk;obtain⟨A,hA⟩:=zap;rw[hA]at kg;have hP0:=zr;have KG:=J kg;clear kg;have HPP:=J hP;clear hP;have hk1:=zna;have hte:=zfl;have L0:=zw;have HB:=J hb;clear hb;have HTE:=J hte;clear hk1;have hA1:=ze;have hw1:=zag;have HA1:=J hA1;clear hA1 hte ht hK;subst hK4;subst hN5;subst hg1;have hk2:=zau;have htt:=ziz
 have hA2:(A:Int)+2=((l.length - r.tail.tail.length:Nat):Int):=by
  exact yzh
 have hw2:=zgl;have HA2:=zla;have HTT:=zgb;have L1:=zft;have L2:=zcu;clear hN hn ht2 hK2 hA2 htt hk2;subst hg2;subst h40;have HB2:=J hb2;clear hb2;exact u7o
theorem vp7 (h:P:=by
 have hsl:=hP.suf.length_le;have hll:=hP.len;have hgl:=hP.lt;obtain⟨ta,tc,kg,_,_⟩:=hP.blk;obtain⟨A,hA⟩:=zap;rw[hA]at kg;have hP0:=zr;have KG:=J kg;clear kg;have HPP:=J hP;clear hP;have hk1:=zna;have hte:=zfl;have L0:=zw;have HB:=J hb;clear hb;have HTE:=J hte;clear hk1;have hA1:=ze;have hw1:=zag;have HA1:=J hA1;clear hA1 hte ht hK;subst hK4;subst hN5;subst hg1;have hk2:=zau;have htt:=ziz
 have hA2:(A:Int)+2=((l.length - r.tail.tail.length:Nat):Int):=by
  exact yzh
 have hw2:=zgl;have HA2:=zla;have HTT:=zgb;have L1:=zft;have L2:=zcu;clear hN hn ht2 hK2 hA2 htt hk2;subst hg2;have n40:(K2 == 40)=false:=beq_eq_false_iff_ne.2 h40;have HB2:=J hb2;clear hb2;have HW2:=J hwt;clear hwt
 first
  |guard_hyp hX;have HX:=J hX;clear hX
   have ny:(tt == ([121,101,97,114]:List UInt8))=false:=beq_eq_false_iff_ne.2 hty;exact u7o
  |guard_hyp hx;subst hty
   have HX:=J hx;clear hx;exact u7o):P:=h
theorem ycy (h:P:=by
 exact vp7):P:=h
theorem prim_year_none (g:Nat) (l r:List AM) (w:Ab) (hP:B1 g l r w) (kk:UInt8) (tt:List UInt8) (tg:Bool) (K:Int) (ht:AT r=⟨kk,tt,tg⟩) (hK:(kk.toNat:Int)=K) (hb:Dg r=true) (nk:UInt8) (nt:List UInt8) (ng:Bool) (N:Int) (hn:F1 r=⟨nk,nt,ng⟩) (hN:(nk.toNat:Int)=N) (hK4:K=114) (hN5:N=58) (hg1:ng=true) (k2:UInt8) (t2:List UInt8) (g2:Bool) (K2:Int) (ht2:AT r.tail.tail=⟨k2,t2,g2⟩) (hK2:(k2.toNat:Int)=K2) (hg2:g2=true) (hb2:Dg r.tail.tail=true) (h40:¬ K2=40) (hwt:DM r.tail.tail=true) (hty:tt=[121,101,97,114]) (hx:Ck true r.tail.tail=A0) :
  Af A8 287 #[.pointer (A3 ⟨g,0,A0⟩)] w fun e w'=>e=.panicked [{ v:=EX,recovered:=false }]/\AF g w w':=by
 exact ycy
theorem prim_year_ok (g:Nat) (l r:List AM) (w:Ab) (hP:B1 g l r w) (kk:UInt8) (tt:List UInt8) (tg:Bool) (K:Int) (ht:AT r=⟨kk,tt,tg⟩) (hK:(kk.toNat:Int)=K) (hb:Dg r=true) (nk:UInt8) (nt:List UInt8) (ng:Bool) (N:Int) (hn:F1 r=⟨nk,nt,ng⟩) (hN:(nk.toNat:Int)=N) (hK4:K=114) (hN5:N=58) (hg1:ng=true) (k2:UInt8) (t2:List UInt8) (g2:Bool) (K2:Int) (ht2:AT r.tail.tail=⟨k2,t2,g2⟩) (hK2:(k2.toNat:Int)=K2) (hg2:g2=true) (hb2:Dg r.tail.tail=true) (h40:¬ K2=40) (hwt:DM r.tail.tail=true) (hty:tt=[121,101,97,114]) (q:Cq) (r':List AM) (hx:Ck true r.tail.tail=A3 (q,r')) :
  Af A8 287 #[.pointer (A3 ⟨g,0,A0⟩)] w fun e w'=>DU g l (A3 (q,r')) w e w':=by
 exact ycy
end
section
attribute [local go_sem] G3 G4 G5
namespace Qr
def nms:List (List UInt8):=[[97,110,121],[116,105],[97,117],[115,117],[110,117]]
theorem fieldOf_at {k:Nat}{t:List UInt8} (h:nms[k]?=A3 t):fieldOf t=A3 (k:Int):=by
 match k,h with
 | 0,h=>injection h with h;subst h;rfl
 | 1,h=>injection h with h;subst h;rfl
 | 2,h=>injection h with h;subst h;rfl
 | 3,h=>injection h with h;subst h;rfl
 | 4,h=>injection h with h;subst h;rfl
 | k+5,h=>simp[nms]at h
theorem fieldOf_none {t:List UInt8} (h:∀ x∈nms,x≠t):fieldOf t=A0:=by
 have h0:=h [97,110,121] uX;have h1:=h [116,105] uX;have h2:=h [97,117] uX;have h3:=h [115,117] uX;have h4:=h [110,117] uX;unfold fieldOf;rw[if_neg h0.symm,if_neg h1.symm,if_neg h2.symm,if_neg h3.symm,if_neg h4.symm]
theorem nms_cell {w:Ab}{b k:Nat}{x:List UInt8} (h:w.heap[b]?=A3 (.cells #[.string ⟨#[97,110,121]⟩,.string ⟨#[116,105]⟩,.string ⟨#[97,117]⟩,.string ⟨#[115,117]⟩,.string ⟨#[110,117]⟩] 9 (0,0))) (hx:nms[k]?=A3 x):w.cell? ⟨b,k,A0⟩=A3 (.string ⟨x.toArray⟩):=by
 have hc:=(Tx.blk h).1
 match k,hx with
 | 0,hx=>injection hx with hx;subst hx;exact hc 0
 | 1,hx=>injection hx with hx;subst hx;exact hc 1
 | 2,hx=>injection hx with hx;subst hx;exact hc 2
 | 3,hx=>injection hx with hx;subst hx;exact hc 3
 | 4,hx=>injection hx with hx;subst hx;exact hc 4
 | k+5,hx=>simp[nms]at hx
def Qy.withF (f:Int):Qy->Qy | .mk o _ ws a b ks=>.mk o f ws a b ks
theorem pTerm_f (st:Bool) (f:Int) (r:List Tok):pTerm st f r=(pTerm st 0 r).map fun x=>(x.1.withF f,x.2):=by
 unfold pTerm
 repeat' split
 all_goals rfl
theorem QC.setF {B:Nat}{w:Ab}{q:Qy}{o f a b:Int}{sa ka:Option Addr}{sn sc kn kc:Nat} (f':Int) (h:QC B w q [.int .i64 o,.int .i64 f,.slice sa sn sc,.int .i64 a,.int .i64 b,.slice ka kn kc]):QC B w (q.withF f') [.int .i64 o,.int .i64 f',.slice sa sn sc,.int .i64 a,.int .i64 b,.slice ka kn kc]:=by
 cases h with
 | mk hw hwb hl hk hf hfb=>exact .mk hw hwb hl hk hf hfb
end Qr
theorem prim_name (g:Nat) (l r:List AM) (w:Ab) (hP:B1 g l r w) (kk:UInt8) (tt:List UInt8) (tg:Bool) (K:Int) (ht:AT r=⟨kk,tt,tg⟩) (hK:(kk.toNat:Int)=K) (hb:Dg r=true) (nk:UInt8) (nt:List UInt8) (ng:Bool) (N:Int) (hn:F1 r=⟨nk,nt,ng⟩) (hN:(nk.toNat:Int)=N) (hK4:K=114) (hN5:N=58) (hg1:ng=true) (k2:UInt8) (t2:List UInt8) (g2:Bool) (K2:Int) (ht2:AT r.tail.tail=⟨k2,t2,g2⟩) (hK2:(k2.toNat:Int)=K2) (hg2:g2=true) (hb2:Dg r.tail.tail=true) (h40:¬ K2=40) (hwt:DM r.tail.tail=true) (hty:tt≠[121,101,97,114]) (X:I6) (hX:X=match GA tt with | none=>A0 | some f=>D7 true f r.tail.tail) :
  Af A8 287 #[.pointer (A3 ⟨g,0,A0⟩)] w fun e w'=>DU g l X w e w':=by
 exact vp7
end
namespace Qr
theorem begins_word {r:List Tok} (h:begins r=true) (h40:(lk r).k≠40):word0 r=true:=by
 unfold begins at h;simp only[DS,beq_iff_eq]at h;rcases h with h | h
 ·exact absurd h h40
 ·exact h
theorem not_begins {r:List Tok} (h:begins r=false):word0 r=false/\(lk r).k≠40:=by
 unfold begins at h;simp only[Bool.or_eq_false_iff,beq_eq_false_iff_ne]at h;exact⟨h.2,h.1⟩
end Qr
theorem prim_c (g n:Nat) (l:List AM) (hOr:∀ (r:List AM) (w:Ab),8*r.length+7<=n->B1 g l r w->Af A8 117 #[.pointer (A3 ⟨g,0,A0⟩)] w (DU g l (DN true n r) w))
  (r:List AM) (w:Ab) (hn:8*r.length+4<=n+1) (hP:B1 g l r w) :
  Af A8 287 #[.pointer (A3 ⟨g,0,A0⟩)] w (DU g l (Db true (n+1) r) w):=by
 cases hb:Dg r with
 | false =>
  have h1:=Qr.not_begins hb
  have e:Db true (n+1) r=A0:=by
   unfold Db JW;rw[if_neg h1.2,if_pos h1.1]
  rw[e];exact (prim_bad g l r w hP hb)
 | true =>
  obtain⟨⟨kk,tt,tg⟩,ht⟩:=zgn;obtain⟨⟨nk,nt,ng⟩,hnx⟩:∃ t,F1 r=t:=⟨_,rfl⟩;have hte:=EQ (Qr.begins_ne hb);by_cases h40:kk=40
  ·subst h40;have hor:=fun w h=>hOr r.tail w (by have:=hte.2;omega) h
   have e0:Db true (n+1) r=match DN true n r.tail with
     | none=>A0
     | some (q,r')=>if (AT r').k=41 then A3 (q,r'.tail) else A0:=by
    rw[Db,if_pos (by rw[ht])];rfl
   cases ho:DN true n r.tail with
   | none =>
    rw[ho]at hor e0;rw[e0];exact prim_par_none g l r w hP 40 tt tg _ ht rfl hb rfl A0 hor rfl
   | some p =>
    obtain⟨q,r'⟩:=p;rw[ho]at hor e0;have hsuf:=((DO true n).1 r.tail q r' ho).1.trans hte.1;obtain⟨⟨k5,t5,g5⟩,ht5⟩:∃ t,AT r'=t:=⟨_,rfl⟩;by_cases h41:k5=41
    ·have e1:Db true (n+1) r=A3 (q,r'.tail):=by rw[e0];simp only;rw[if_pos (by rw[ht5];exact h41)]
     rw[e1];exact prim_par_ok g l r w hP 40 tt tg _ ht rfl hb rfl _ hor q r' rfl k5 t5 g5 _ ht5 rfl hsuf h41
    ·have e1:Db true (n+1) r=A0:=by rw[e0];simp only;rw[if_neg (by rw[ht5];exact h41)]
     rw[e1];exact prim_par_bad g l r w hP 40 tt tg _ ht rfl hb rfl _ hor q r' rfl k5 t5 g5 _ ht5 rfl h41
  ·have hk:(AT r).k≠40:=by rw[ht];exact h40
   have hK:¬ ((kk.toNat:Int)=40):=fun h=>h40 (EF.1 zsc);have hw:=Qr.begins_word hb hk;have e0:Db true (n+1) r=JW true r:=by rw[Db,if_neg hk]
   rw[e0];have hkk:=Qr.word0_k ht hw;by_cases h58:Ho 58 r=true
   ·have hgl:=h58;rw[Qr.glue_eq ht hnx]at hgl;simp only[Bu,beq_iff_eq]at hgl;obtain⟨⟨rfl,rfl⟩,rfl⟩:=hgl;obtain⟨⟨k2,t2,g2⟩,ht2⟩:∃ t,AT r.tail.tail=t:=⟨_,rfl⟩
    have e1:JW true r=if g2=false then A0 else if DM r.tail.tail=false then A0 else if tt=[121,101,97,114] then Ck true r.tail.tail else match GA tt with
      | none=>A0
      | some f=>D7 true f r.tail.tail:=by
     unfold JW;rw[if_neg eW,if_pos h58,ht2,ht];rfl
    cases g2 with
    | false =>
     rw[e1,if_pos rfl];exact prim_unglued g l r w hP 114 tt tg _ ht rfl hb 58 nt true _ hnx rfl rfl rfl rfl k2 t2 false _ ht2 rfl rfl
    | true =>
     rw[if_neg oZ]at e1;cases hb2:Dg r.tail.tail with
     | false =>
      rw[e1,if_pos (Qr.not_begins hb2).1];exact prim_nobeg g l r w hP 114 tt tg _ ht rfl hb 58 nt true _ hnx rfl rfl rfl rfl k2 t2 true _ ht2 rfl rfl hb2
     | true =>
      by_cases h2:k2=40
      ·have hw2:DM r.tail.tail=false:=by
        unfold DM;rw[ht2];simp[h2]
       rw[e1,if_pos hw2];exact prim_par2 g l r w hP 114 tt tg _ ht rfl hb 58 nt true _ hnx rfl rfl rfl rfl k2 t2 true _ ht2 rfl rfl hb2 (by rw[h2];rfl)
      ·have hK2:¬ ((k2.toNat:Int)=40):=fun h=>h2 (EF.1 zsc);have hw2:=Qr.begins_word hb2 (by rw[ht2];exact h2);rw[if_neg (by simp[hw2])]at e1;by_cases hty:tt=[121,101,97,114]
       ·rw[e1,if_pos hty];cases hx:Ck true r.tail.tail with
        | none=>exact prim_year_none g l r w hP 114 tt tg _ ht rfl hb 58 nt true _ hnx rfl rfl rfl rfl k2 t2 true _ ht2 rfl rfl hb2 hK2 hw2 hty hx
        | some p=>exact prim_year_ok g l r w hP 114 tt tg _ ht rfl hb 58 nt true _ hnx rfl rfl rfl rfl k2 t2 true _ ht2 rfl rfl hb2 hK2 hw2 hty p.1 p.2 hx
       ·rw[e1,if_neg hty];exact prim_name g l r w hP 114 tt tg _ ht rfl hb 58 nt true _ hnx rfl rfl rfl rfl k2 t2 true _ ht2 rfl rfl hb2 hK2 hw2 hty _ rfl
   ·have h58':Ho 58 r=false:=by simpa using h58
    have hp:=h58';rw[Qr.glue_eq ht hnx]at hp
    have e1:JW true r=D7 true 0 r:=by
     unfold JW;rw[if_neg eW,if_neg h58]
    rw[e1];cases hx:D7 true 0 r with
    | none=>exact prim_dir_none g l r w hP kk tt tg _ ht rfl hb nk nt ng _ hnx rfl hw hK (Qr.no_glue (c:=58) hkk hp) hx
    | some p=>exact prim_dir_ok g l r w hP kk tt tg _ ht rfl hb nk nt ng _ hnx rfl hw hK (Qr.no_glue (c:=58) hkk hp) p.1 p.2 hx
section
attribute [local go_sem] G3 G4 G5
theorem vim (h:P:=by
 rw[<- hW3]at hF3 hP3 kR3 kQ3 s3;rw[<- hW3];have hK3:Qr.Kp (w.heap.size+1) w1 W3:=by rw[hW3];exact ((Bc (A9 w1 _)).trans (Bc hb2)).set (show g<w.heap.size+1 by omega) _
 clear hW3;obtain⟨x0,x1,x2,x3,x4,x5,-⟩:=Tx.c6 kQ3;have KQ3:=J kQ3;have KR3:=zrm;clear kQ3 kR3
 first
  |refine wp_region_held_drew (S:=(fun w'=>w'.cell? ⟨w1.heap.size,0,A0⟩=A3 (.int .i64 qo)/\w'.cell? ⟨w1.heap.size,1,A0⟩=A3 (.int .i64 qf)/\w'.cell? ⟨w1.heap.size,2,A0⟩=A3 (.slice qsa qsn qsc)/\w'.cell? ⟨w1.heap.size,3,A0⟩=A3 (.int .i64 qa)/\w'.cell? ⟨w1.heap.size,4,A0⟩=A3 (.int .i64 qb)/\w'.cell? ⟨w1.heap.size,5,A0⟩=A3 (.slice qka qkn qkc))) oJ ?_ (fun hHeld=>?_)
   ·exact⟨x0,x1,x2,x3,x4,x5⟩
   refine wpAnyH_take (i:=0) (oi:=⟨A3 17,_,_,_,_,_⟩) (v:=.agg #[.int .i64 qo,.int .i64 qf,.slice qsa qsn qsc,.int .i64 qa,.int .i64 qb,.slice qka qkn qkc]) rfl oJ oJ oJ (fun _ _ _ h=>h) (Or.inl ⟨oV,?_⟩) ‹_› ?_
   ·intro w hSw;(try dsimp only at hSw);go_simp
   simp only[Act.put,Bj,BR,BS];refine wpAnyH_take (i:=1) (oi:=⟨A3 18,_,_,_,_,_⟩) (v:=.pointer (A3 ⟨g,0,A0⟩)) rfl oJ oJ oJ (fun _ _ _ h=>h) (Or.inl ⟨oV,?_⟩) ‹_› ?_
   ·intro w hSw;(try dsimp only at hSw);go_simp
   simp only[Act.put,Bj,BR,BS];refine wpAnyH_ready (rs:=[2]) oJ oZ ?_;refine AllReadyH.cons (o:=⟨A3 19,_,_,_,_,_⟩) rfl (fun K hK=>?_) AllReadyH.nil;go_simp;go_split_ands;go_at_call 287;refine (hPr2 _ (hP3.below ((Ah W3.heap.size W3).drew))).mono ?_;rintro e w5 h5;rw[HY.out]at h5;obtain⟨rfl,hF5⟩:=h5.bad;have hF5':AF g w w5:=hF3.trans (((Bh g W3).drew).trans hF5);exact⟨rfl,rfl,hF5'⟩
  |go_region_with (go_at_call 287;refine (hPr2 _ (hP3.below ((Ah W3.heap.size W3).drew))).mono ?_;rintro e w5 h5;rw[HY.out]at h5;obtain⟨po,pf,pa,pb,psa,psn,psc,pka,pkn,pkc,rfl,hq5,hP5,hF5⟩:=h5.get;have s5:=hF5.size;have s5d:W3.heap.size<=w5.heap.size:=s5;have hF53:AF g W3 w5:=((Bh g W3).drew).trans hF5;have hF5':AF g w w5:=hF3.trans hF53;have kQ5:=(hF53.block w1.heap.size oQ (AA.1 KQ3.out).1).trans KQ3.out;have kR5:=(hF53.block w.heap.size oQ (AA.1 KR3.out).1).trans KR3.out;obtain⟨v0,v1,v2,v3,v4,v5,-⟩:=Tx.c6 kQ5;have kR6:∀ o,(w5.alloc o).heap[w.heap.size]?=A3 (.cells AO 29 (0,0)):=(fun o=>A6 kR5 (A9 w5 o));obtain⟨y0,y1,y2,y3,y4,y5,fr6⟩:=Tx.a6 kR6;clear kQ5 kR5 kR6)
   all_goals
    go_wp2;refine Aw (v:=.agg #[.int .i64 7,.int .i64 0,.slice A0 0 0,.int .i64 0,.int .i64 0,.slice (A3 ⟨w5.heap.size,0,A0⟩) 2 2]) (by simp[results,Tryz.results250,go_sem,y0,y1,y2,y3,y4,y5]) rfl ?_;obtain⟨W6,hW6⟩:∃ W6,W6=w5.alloc (.cells #[.int .i64 qo,.int .i64 qf,.slice qsa qsn qsc,.int .i64 qa,.int .i64 qb,.slice qka qkn qkc,.int .i64 po,.int .i64 pf,.slice psa psn psc,.int .i64 pa,.int .i64 pb,.slice pka pkn pkc] 29):=⟨_,rfl⟩
    have hblk:W6.heap[w5.heap.size]?=A3 (.cells ([(⟨qo,qf,qsa,qsn,qsc,qa,qb,qka,qkn,qkc⟩:Qr.QT),(⟨po,pf,psa,psn,psc,pa,pb,pka,pkn,pkc⟩:Qr.QT)].flatMap Bb).toArray 29 (0,0)):=by
     rw[hW6];exact Ae w5 _
    have hK6:Qr.Kp (w.heap.size+1) w5 W6:=by rw[hW6];exact Bc (A9 _ _)
    have hB6:Below w5.heap.size w5 W6:=by rw[hW6];exact A9 _ _
    have hF6:AF g w W6:=by rw[hW6];exact hF5'.alloc _
    rw[<- hW6];clear hW6;have hK1:=hK3.trans ((Qr.Kp.fr hF53 (show g<w.heap.size+1 by omega)).trans hK6);have hdd:W3.drew.heap.size=W3.heap.size:=rfl;have hq1':=(hq1.kp (Dp hK1 (show w.heap.size<w.heap.size+1 by omega) (.int .i64 7) (.int .i64 0) (.slice A0 0 0) (.int .i64 0) (.int .i64 0) (.slice (A3 ⟨w5.heap.size,0,A0⟩) 2 2))).mono (show w.heap.size<=w.heap.size+1 by omega);have hq5':=(hq5.kp (Dp (hK6.mono (show w.heap.size+1<=W3.drew.heap.size by omega)) (show w.heap.size<W3.drew.heap.size by omega) (.int .i64 7) (.int .i64 0) (.slice A0 0 0) (.int .i64 0) (.int .i64 0) (.slice (A3 ⟨w5.heap.size,0,A0⟩) 2 2))).mono (show w.heap.size<=W3.drew.heap.size by omega);have hfa:=Qr.fa_new (EL hblk (show w5.heap.size≠w.heap.size by omega) (.int .i64 7) (.int .i64 0) (.slice A0 0 0) (.int .i64 0) (.int .i64 0) (.slice (A3 ⟨w5.heap.size,0,A0⟩) 2 2)) zsv;have hql:=(Qr.QL.one (t:=⟨qo,qf,qsa,qsn,qsc,qa,qb,qka,qkn,qkc⟩) hq1').app (Qr.QL.one (t:=⟨po,pf,psa,psn,psc,pa,pb,pka,pkn,pkc⟩) hq5');have hka:=Qr.KA.of_ts hql hfa (fun _ ad e9=>by cases e9;simp only;omega);obtain⟨ta6,tc6,kg6,_,_⟩:=hP5.blk;have kg7:=A6 kg6 hB6;exact⟨⟨7,0,A0,0,0,0,0,A3 ⟨w5.heap.size,0,A0⟩,2,2⟩,rfl,Qr.QC.of_kids (ws:=[]) (.inl ⟨rfl,_,_,rfl⟩) (fun h=>absurd rfl h) hka,GK hP5 kg6 (DK (hB6.mono (show g<=w5.heap.size by omega)) (show g<=w.heap.size by omega) _ _ _ _ _ _) (Bv _) (EL kg7 (show g≠w.heap.size by omega) _ _ _ _ _ _) rfl,Cc hF6 (Ad _) _ _ _ _ _ _⟩):P:=h
theorem u8d (h:P:=by
 go_enter Tryz.func250,Tryz.ntmps250
 go_wp2_with (first
  |(go_at_call 196;refine (is_c g l r' E5 _ hP1').mono ?_;rintro e w2 ⟨rfl,hb2⟩;rw[HI.out];have s2:=hb2.size;simp only[An]at s2;have KR2:=zfu;have KQ2:=J (A6 KQ1.out hb2);have hF2:=hF1'.trans (.of_below hb2);have hP2:=hP1'.below hb2;obtain⟨x0,x1,x2,x3,x4,x5,-⟩:=Tx.c6 KQ2.out;obtain⟨z0,z1,z2,z3,z4,z5,fr2⟩:=zri;obtain⟨ta2,tc2,kg2,_,_⟩:=hP2.blk;rw[HA5.out]at kg2;obtain⟨-,eg2,fg2⟩:=zpo;have KG2:=zpt;clear kg2;have kg3:=BL KG2.out (.int .i64 ((A5:Int)+1));have hF3:=hF2.set1 (.int .i64 ((A5:Int)+1));have hP3:=GK hP2 KG2.out ((Ah g _).setCell (Ad g) _) HT5.out.1 kg3 HA6.out;have kR3:(w2.setCell ⟨g,1,A0⟩ (.int .i64 ((A5:Int)+1))).heap[w.heap.size]?=A3 (.cells AO 29 (0,0)):=As (a:=⟨g,1,A0⟩) KR2.out (show w.heap.size≠g by omega) _;have kQ3:(w2.setCell ⟨g,1,A0⟩ (.int .i64 ((A5:Int)+1))).heap[w1.heap.size]?=A3 (.cells #[.int .i64 qo,.int .i64 qf,.slice qsa qsn qsc,.int .i64 qa,.int .i64 qb,.slice qka qkn qkc] 29 (0,0)):=As (a:=⟨g,1,A0⟩) KQ2.out (show w1.heap.size≠g by omega) _;have s3:(w2.setCell ⟨g,1,A0⟩ (.int .i64 ((A5:Int)+1))).heap.size=w2.heap.size:=eX;clear x0 z0;clear x1 z1;clear x2 z2;clear x3 z3;clear x4 z4;clear x5 z5;clear fr2 kg3)
  |(go_at_call 196;refine (is_c g l r' E5 _ hP1').mono ?_;rintro e w2 ⟨rfl,hb2⟩;rw[HI.out];have s2:=hb2.size;simp only[An]at s2;have KR2:=zfu;have KQ2:=J (A6 KQ1.out hb2);have hF2:=hF1'.trans (.of_below hb2);have hP2:=hP1'.below hb2;obtain⟨x0,x1,x2,x3,x4,x5,-⟩:=Tx.c6 KQ2.out;obtain⟨z0,z1,z2,z3,z4,z5,fr2⟩:=zri;obtain⟨ta2,tc2,kg2,_,_⟩:=hP2.blk;rw[HA5.out]at kg2;obtain⟨-,eg2,fg2⟩:=zpo;have KG2:=zpt;clear kg2)
  |(go_at_call 287;refine (hPr _ hP0).mono ?_;rintro e w1 h1;rw[HO.out]at h1;obtain⟨qo,qf,qa,qb,qsa,qsn,qsc,qka,qkn,qkc,rfl,hq1,hP1,hF1⟩:=h1.get;have s1:=hF1.size;simp only[An]at s1 hq1;have hF1':AF g w (w1.alloc (.cells #[.int .i64 qo,.int .i64 qf,.slice qsa qsn qsc,.int .i64 qa,.int .i64 qb,.slice qka qkn qkc] 29)):=(((Bh g w).alloc _).trans hF1).alloc _;have ew1:=A9 w1 (.cells #[.int .i64 qo,.int .i64 qf,.slice qsa qsn qsc,.int .i64 qa,.int .i64 qb,.slice qka qkn qkc] 29);have KR1:=J (A6 ((hF1.block w.heap.size oQ oZ).trans (Ae w _)) ew1);have KQ1:=J (Tx.han ew1);have hP1':B1 g l r' (w1.alloc (.cells #[.int .i64 qo,.int .i64 qf,.slice qsa qsn qsc,.int .i64 qa,.int .i64 qb,.slice qka qkn qkc] 29)):=hP1.below (A9 w1 _))
  |(go_at_call 287;refine (hPr _ hP0).mono ?_;rintro e w1 h1;rw[HO.out]at h1;obtain⟨rfl,hF1⟩:=h1.bad;have hF1':AF g w w1:=((Bh g w).alloc _).trans hF1))
 first
  |obtain⟨W3,hW3⟩:∃ W3,W3=(w2.setCell ⟨g,1,A0⟩ (.int .i64 ((A5:Int)+1))):=⟨_,rfl⟩
   exact vim
  |refine Aw (v:=.agg #[.int .i64 qo,.int .i64 qf,.slice qsa qsn qsc,.int .i64 qa,.int .i64 qb,.slice qka qkn qkc]) (by simp[results,Tryz.results250,go_sem,z0,z1,z2,z3,z4,z5]) rfl ⟨⟨qo,qf,qsa,qsn,qsc,qa,qb,qka,qkn,qkc⟩,rfl,?_,?_,Cc hF2 (Ad _) _ _ _ _ _ _⟩
   ·exact (hq1.kp ((Bc (A9 w1 _)).trans ((Bc hb2).trans (Dp (Dn _ _) oQ _ _ _ _ _ _)))).mono oQ
   ·exact GK hP2 KG2.out (DK (Ah _ _) oQ _ _ _ _ _ _) (Bv _) (EL KG2.out (show g≠w.heap.size by omega) _ _ _ _ _ _) (by rw[HA5.out])
  |exact⟨rfl,rfl,hF1'⟩):P:=h
theorem not_none (g:Nat) (l r:List AM) (w:Ab) (hP:B1 g l r w) (x:I6) (hPr:∀ w,B1 g l r w->Af A8 287 #[.pointer (A3 ⟨g,0,A0⟩)] w (DU g l x w)) (ho:x=A0) :
  Af A8 250 #[.pointer (A3 ⟨g,0,A0⟩)] w fun e w'=>e=.panicked [{ v:=EX,recovered:=false }]/\AF g w w':=by
 have hgl:=hP.lt;have hll:=hP.len;have hP0:=zr;have HPP:=J hP;clear hP;have HO:=J ho;clear ho;exact u8d
theorem v2r (h:P:=by
 have hgl:=hP.lt;have hll:=hP.len;have hP0:=zr;have HPP:=J hP;clear hP;have HO:=J ho;clear ho;have hsl:=hr'.length_le;obtain⟨A5,hA5⟩:∃ A5,l.length - r'.length=A5:=⟨_,rfl⟩;have hw5:=zpg;have HA5:=J hA5
 first
  |guard_hyp hy;have hte5:=EQ (Ji hi)
   have hA6:(A5:Int)+1=((l.length - r'.tail.length:Nat):Int):=by
    have h1:=hte5.2;have h3:=hll;have h4:=(hr'.trans HPP.out.suf).length_le;rw[Cl]at h1 ⊢;omega
   have HA6:=J hA6;have HT5:=J hte5;have HI:=J hi;clear hi hA5 hA6 hte5;have HY:=J hy;clear hy;exact u8d
  |have HI:=J hi;clear hi hA5
   exact u8d):P:=h
theorem not_plain (g:Nat) (l r:List AM) (w:Ab) (hP:B1 g l r w) (x:I6) (hPr:∀ w,B1 g l r w->Af A8 287 #[.pointer (A3 ⟨g,0,A0⟩)] w (DU g l x w)) (q:Cq) (r':List AM) (ho:x=A3 (q,r')) (hr':r' <:+ r) (hi:E6 E5 r'=false) :
  Af A8 250 #[.pointer (A3 ⟨g,0,A0⟩)] w fun e w'=>DU g l (A3 (q,r')) w e w':=by
 exact v2r
theorem yfz (h:P:=by
 exact v2r):P:=h
theorem not_none2 (g:Nat) (l r:List AM) (w:Ab) (hP:B1 g l r w) (x:I6) (hPr:∀ w,B1 g l r w->Af A8 287 #[.pointer (A3 ⟨g,0,A0⟩)] w (DU g l x w)) (q:Cq) (r':List AM) (ho:x=A3 (q,r')) (hr':r' <:+ r) (hi:E6 E5 r'=true) (y:I6) (hPr2:∀ w,B1 g l r'.tail w->Af A8 287 #[.pointer (A3 ⟨g,0,A0⟩)] w (DU g l y w)) (hy:y=A0) :
  Af A8 250 #[.pointer (A3 ⟨g,0,A0⟩)] w fun e w'=>e=.panicked [{ v:=EX,recovered:=false }]/\AF g w w':=by
 exact yfz
theorem not_two (g:Nat) (l r:List AM) (w:Ab) (hP:B1 g l r w) (x:I6) (hPr:∀ w,B1 g l r w->Af A8 287 #[.pointer (A3 ⟨g,0,A0⟩)] w (DU g l x w)) (q:Cq) (r':List AM) (ho:x=A3 (q,r')) (hr':r' <:+ r) (hi:E6 E5 r'=true) (y:I6) (hPr2:∀ w,B1 g l r'.tail w->Af A8 287 #[.pointer (A3 ⟨g,0,A0⟩)] w (DU g l y w)) (q2:Cq) (r2:List AM) (hy:y=A3 (q2,r2)) :
  Af A8 250 #[.pointer (A3 ⟨g,0,A0⟩)] w fun e w'=>DU g l (A3 (.mk 7 0 [] 0 0 [q,q2],r2)) w e w':=by
 exact yfz
theorem not_c (g n:Nat) (l:List AM) (hPr:∀ (r:List AM) (w:Ab),8*r.length+4<=n->B1 g l r w->Af A8 287 #[.pointer (A3 ⟨g,0,A0⟩)] w (DU g l (Db true n r) w))
  (r:List AM) (w:Ab) (hn:8*r.length+5<=n+1) (hP:B1 g l r w) :
  Af A8 250 #[.pointer (A3 ⟨g,0,A0⟩)] w (DU g l (EJ true (n+1) r) w):=by
 have h1:=fun w h=>hPr r w oQ h;have he:=(DO true n).2.2.2.2.2 r
 have e0:EJ true (n+1) r=match Db true n r with
   | none=>A0
   | some (q,r')=>if E6 E5 r'=true then match Db true n r'.tail with
     | none=>A0
     | some (q2,r2)=>A3 (.mk 7 0 [] 0 0 [q,q2],r2)
    else A3 (q,r'):=by rw[EJ];rfl
 cases ho:Db true n r with
 | none =>
  rw[ho]at h1 e0;rw[e0];exact not_none g l r w hP A0 h1 rfl
 | some p =>
  obtain⟨q,r'⟩:=p;rw[ho]at h1 e0;have hs:=he q r' ho;by_cases hi:E6 E5 r'=true
  ·have hte:=zmg;have h2:=fun w h=>hPr r'.tail w (by have:=hs.2;have:=hte.2;omega) h;cases hy:Db true n r'.tail with
   | none =>
    rw[hy]at h2;rw[show EJ true (n+1) r=A0 by rw[e0];simp only;rw[if_pos hi,hy]];exact not_none2 g l r w hP _ h1 q r' rfl hs.1 hi A0 h2 rfl
   | some p2 =>
    obtain⟨q2,r2⟩:=p2;rw[hy]at h2;rw[show EJ true (n+1) r=A3 (.mk 7 0 [] 0 0 [q,q2],r2) by rw[e0];simp only;rw[if_pos hi,hy]];exact not_two g l r w hP _ h1 q r' rfl hs.1 hi _ h2 q2 r2 rfl
  ·rw[show EJ true (n+1) r=A3 (q,r') by rw[e0];simp only;rw[if_neg hi]];exact not_plain g l r w hP _ h1 q r' rfl hs.1 iD
end
namespace Qr
theorem HL.fr {g base:Nat}{w w':Ab}{own:Option Nat}{ks:List Qy}{T:List QT} (h:HL base w own ks T) (hF:Fr g w w') (hg:g<base):HL base w' own ks T :=
 ⟨h.1,fun j k t h1 h2=>by
  obtain⟨B,w0,a,b,c,d⟩:=h.2 j k t h1 h2;exact⟨B,w0,a,b.trans (Kp.fr hF oQ),c,d⟩⟩
theorem HL.one' {base B:Nat}{w0 w:Ab}{own:Option Nat}{k:Qy}{t:QT} (h:QC B w0 k (encQ t)) (hK:Kp B w0 w) (hb:base<=B) (ho:∀ b,own=A3 b->b<B\/w0.heap.size<=b):HL base w own [k] [t]:=by
 refine⟨rfl,fun j k2 t2 h1 h2=>?_⟩
 match j,h1,h2 with
 | 0,h1,h2=>injection h1 with h1;injection h2 with h2;rw[<- h1,<- h2];exact⟨B,w0,h,hK,ho,hb⟩
 | j+1,h1,_=>simp at h1
theorem PS.low {g:Nat}{l r:List Tok}{w w':Ab} (h:PS g l r w) (hB:Below (g+1) w w'):PS g l r w':=by
 obtain⟨ta,tc,kg,_,_⟩:=h.blk;exact h.of' kg (hB.mono oQ) (Bv _) ((hB.block g oQ).trans kg) rfl
end Qr
theorem joined_c (B:Nat) (op:Int) (l:List Cq) (a:Option Addr) (c:Nat) (w:Ab) (hK:Qr.KA B w a c l) (hn:CO l<=1000000) (hBw:B<=w.heap.size) :
  Af A8 197 #[.int .i64 op,.slice a l.length c] w fun e w'=>∃ t,e=.returned (.agg (Bb t).toArray)/\Qr.QC B w' (GI op l) (Bb t)/\Below w.heap.size w w':=by
 by_cases h1:l.length=1
 ·match l,h1,hK with
  | [x],_,hK=>exact joined_1 B op x a c w hK
 ·exact joined_m B op l a c w hK h1 hn hBw
section
attribute [local go_sem] G3 G4 G5
theorem y5u (h:P:=by
 have hHL5:=hHL.fr hF35 (show g<w.heap.size+1 by omega);have hHL6:=hHL5.fr ((Bh g w5).alloc (.cells #[.int .i64 qo,.int .i64 qf,.slice qsa qsn qsc,.int .i64 qa,.int .i64 qb,.slice qka qkn qkc] 29)) (show g<w.heap.size+1 by omega);have hone:Qr.HL (w.heap.size+1) (w5.alloc (.cells #[.int .i64 qo,.int .i64 qf,.slice qsa qsn qsc,.int .i64 qa,.int .i64 qb,.slice qka qkn qkc] 29)) (Value.slice va acc.length vc).ownBlock [q2] [⟨qo,qf,qsa,qsn,qsc,qa,qb,qka,qkn,qkc⟩]:=Qr.HL.one' hq5 (Bc (A9 w5 _)) (by have:=hBq.out;omega) (fun b hb=>.inl (by have:=HOW.out b hb;have:=hBq.out;omega));have hgb:Below (g+1) w5 w7:=((Ah (g+1) w5).alloc oQ _).grown hg7 oW OK;have hP7:=hP5.low hgb;have hR5:=(hF35.block w.heap.size oQ hRl).trans HRR.out;have hR7:=(hg7.block w.heap.size oW (fun e=>by have:=HOW.out _ e.symm;omega)).trans (A6 hR5 (A9 w5 _));have hF7:AF g w w7:=((hF.trans hF35).alloc _).grown hg7 OK;have hat7:=hP7.at_;go_roundw
 case rel=>exact⟨k,acc++[q2],T++[⟨qo,qf,qsa,qsn,qsc,qa,qb,qka,qkn,qkc⟩],r2,oQ,oQ,HXX,J oZ,by rw[Qr.nodesL_app,Ag];simp only[CO,AH,Bw];omega,(hHL6.app hone).grown hg7 hnil7,by rw[Ag,List.flatMap_append];exact hown7,hP7,hR7,hF7⟩
 case measure=>rw[hat7,HAT.out];omega):P:=h
theorem yff (h:P:=by
 refine⟨n,[q0],[⟨qo,qf,qsa,qsn,qsc,qa,qb,qka,qkn,qkc⟩],r0,Ad _,oQ,HX,J oZ,by simp only[CO,AH,Bw];omega,Qr.HL.one' hq1 (Bc (A9 w1 _)) (Ad _) (fun b hb=>.inr (by have h9:w1.heap.size=b:=(by simpa [Value.ownBlock] using hb);omega)),World.ownsRow_lit w1 #[.int .i64 qo,.int .i64 qf,.slice qsa qsn qsc,.int .i64 qa,.int .i64 qb,.slice qka qkn qkc] 1 oQ oK rfl,hP1.below (A9 w1 _),A6 kR1 (A9 w1 _),hF1'.alloc _⟩):P:=h
theorem ynj (h:P:=by
 rw[HXN.out];exact⟨⟨qo,qf,qsa,qsn,qsc,qa,qb,qka,qkn,qkc⟩,rfl,(hq9.kp (Dp (Dn _ _) oQ _ _ _ _ _ _)).mono oQ,GK hP9 KP9.out (DK (Ah _ _) oQ _ _ _ _ _ _) (Bv _) (EL KP9.out (show g≠w.heap.size by omega) _ _ _ _ _ _) rfl,Cc (hF.trans hF9) (Ad _) _ _ _ _ _ _⟩):P:=h
theorem and_c (g n:Nat) (l:List AM) (hl:l.length<=400000) (hSub:∀ (m:Nat) (r:List AM) (w:Ab),m<=n->8*r.length+5<=m->B1 g l r w->Af A8 250 #[.pointer (A3 ⟨g,0,A0⟩)] w (DU g l (EJ true m r) w))
  (r:List AM) (w:Ab) (hn:8*r.length+6<=n+1) (hP:B1 g l r w) :
  Af A8 195 #[.pointer (A3 ⟨g,0,A0⟩)] w (DU g l (GX true (n+1) r) w):=by
 obtain⟨i0,hi0,hz0,hz1,hz2⟩:=zms;have HI:=J hi0;clear hi0;have hgl:=hP.lt;have hrl:=hP.suf.length_le;have hmx:maxLen=9223372036854775807:=rfl;have hP0:=zr;have h1:=zpb;have he:=(DO true n).2.2.2.2.1 r;have hb0:=(Ex true n).2.2.2.2.1 r
 have e0:GX true (n+1) r=match EJ true n r with
   | none=>A0
   | some (q,r')=>Fw true n [q] r':=by rw[GX];rfl
 cases ho:EJ true n r with
 | none =>
  rw[ho]at h1 e0;rw[e0];clear he hb0 e0 hP hSub;go_enter Tryz.func195,Tryz.ntmps195;go_wp2_with (go_at_call 250;refine (h1 _ hP0).mono ?_;rintro e w1 hh;obtain⟨rfl,hF1⟩:=hh.bad;have hF1':AF g w w1:=((Bh g w).alloc _).trans hF1);exact⟨rfl,rfl,hF1'⟩
 | some p =>
  obtain⟨q0,r0⟩:=p;rw[ho]at h1 e0;have hs0:=he q0 r0 ho;have hn0:=hb0 q0 r0 ho;obtain⟨X,hX⟩:∃ X,Fw true n [q0] r0=X:=⟨_,rfl⟩;rw[e0];simp only;rw[hX];have HX:=J hX;clear he hb0 e0 hX ho hP;go_enter Tryz.func195,Tryz.ntmps195;go_wp2_with (go_at_call 250;refine (h1 _ hP0).mono ?_;rintro e w1 hh;obtain⟨qo,qf,qa,qb,qsa,qsn,qsc,qka,qkn,qkc,rfl,hq1,hP1,hF1⟩:=hh.get;clear hh;have s1:=hF1.size;simp only[An]at s1 hq1;have kR1:=zdn;have hF1':AF g w w1:=((Bh g w).alloc _).trans hF1);go_loopw [3] (fun v wr=>∃ (m:Nat) (acc:List Cq) (T:List Qr.QT) (r1:List AM),m<=n/\8*r1.length+6<=m/\Hid (Fw true m acc r1=X)/\Hid (acc≠[])/\CO acc+acc.length+2*r1.length<=2*r.length/\Qr.HL (w.heap.size+1) wr v.ownBlock acc T/\wr.ownsRow (w.heap.size+1) 29 6 v T.length (T.flatMap Bb)/\B1 g l r1 wr/\wr.heap[w.heap.size]?=A3 (.cells AO 29 (0,0))/\AF g w wr) (fun _ w=>l.length - Qr.atOf g w)
  case atStart =>
   exact yff
  case round =>
   obtain⟨m,acc,T,r1,hm,hmr,hLX,hne,hnd,hHL,hown,hPr,hR,hF⟩:=hrel;have hTl:=hHL.1;have hrs:=hPr.suf.length_le;obtain⟨va,vc,rfl,hka⟩:=hHL.ka hown;have hownb:=zbf;have HOW:=J hownb;clear hownb;obtain⟨k,hk⟩:=znu;subst hk;have hws:=hF.size;have hRl:=(AA.1 hR).1;have hat:=hPr.at_;have HAT:=J hat;clear hat;have HRR:=J hR;clear hR;obtain⟨A1,hA1⟩:∃ A1,l.length - r1.length=A1:=⟨_,rfl⟩;have hw1:=zph;have HA1:=J hA1;by_cases ho:E6 F2 r1=true
   ·have hte1:=EQ (Ji ho)
    have hA2:(A1:Int)+1=((l.length - r1.tail.length:Nat):Int):=by
     have h1:=hte1.2;rw[Cl]at h1 ⊢;omega
    have HT1:=J hte1;have HA2:=zla;have HO:=J ho;have hrt:=hte1.2;clear hA2 hte1;have h1s:=zor;have heS:=(DO true k).2.2.2.2.1 r1.tail;have hnS:=(Ex true k).2.2.2.2.1 r1.tail;cases hsub:EJ true k r1.tail with
    | none =>
     rw[hsub]at h1s;have hS:=h1s;clear h1s;have HXN:Hid (X=A0):=J zsj;clear heS hnS hsub hA1
     go_wp2_with (first
      |(go_at_call 250;refine (hS _ (hP3.adv HT1.out.1 HA2.out)).mono ?_;rintro e w5 hh;obtain⟨rfl,hF5⟩:=hh.bad;have hF5':AF g w w5:=hF.trans ((hF3.set rfl _).trans hF5))
      |(go_at_call 196;refine (is_c g l r1 F2 _ hP2).mono ?_;rintro e w3 ⟨rfl,hb3⟩;rw[HO.out];have s3:=hb3.size;have hP3:=hP2.below hb3;have hF3:AF g wr w3:=hF2.trans (.of_below hb3);obtain⟨pta,ptc,pc0,pc1,pfz⟩:=hP3.cells;rw[HA1.out]at pc1)
      |(go_at_call 196;refine (is_c g l r1 F2 _ hPr).mono ?_;rintro e w2 ⟨rfl,hb2⟩;rw[HO.out];have s2:=hb2.size;have hP2:=znh;have hF2:=zfm))
     refine⟨rfl,?_⟩;rw[HXN.out];exact⟨rfl,hF5'⟩
    | some p =>
     obtain⟨q2,r2⟩:=p;rw[hsub]at h1s;have hS:=h1s;clear h1s;have hes:=heS q2 r2 hsub;have hns:=hnS q2 r2 hsub;have hrl2:=hes.1.length_le;have HXX:Hid (Fw true k (acc++[q2]) r2=X):=J zsj;clear heS hnS hsub hA1
     go_wp2_with (first
      |(at_builtin;go_must (refine wpList_append_sl rfl _ _ 27 rfl (w.heap.size+1) 29 i0 _ 6 80 DG HI.out hz0 hz1 hz2 rfl oX _ T.length _ rfl (hown5.alloc _) (A3 ⟨_,0,A0⟩) 1 1 [.int .i64 qo,.int .i64 qf,.slice qsa qsn qsc,.int .i64 qa,.int .i64 qb,.slice qka qkn qkc] rfl rfl oF oD oG oK oQ oW ?_);intro v' w7 hown7 hg7 hnil7)
      |(go_at_call 250;refine (hS _ (hP3.adv HT1.out.1 HA2.out)).mono ?_;rintro e w5 hh;obtain⟨qo,qf,qa,qb,qsa,qsn,qsc,qka,qkn,qkc,rfl,hq5,hP5,hF5⟩:=hh.get;clear hh;have s5:=hF5.size;have s5':w3.heap.size<=w5.heap.size:=ztf;have hF35:AF g wr w5:=(hF3.set rfl _).trans hF5;have hown5:=zjo;have hBq:Hid ((w3.setCell ⟨g,1,A0⟩ (.int .i64 ((A1:Int)+1))).heap.size=w3.heap.size):=J eX)
      |(go_at_call 196;refine (is_c g l r1 F2 _ hP2).mono ?_;rintro e w3 ⟨rfl,hb3⟩;rw[HO.out];have s3:=hb3.size;have hP3:=hP2.below hb3;have hF3:AF g wr w3:=hF2.trans (.of_below hb3);obtain⟨pta,ptc,pc0,pc1,pfz⟩:=hP3.cells;rw[HA1.out]at pc1)
      |(go_at_call 196;refine (is_c g l r1 F2 _ hPr).mono ?_;rintro e w2 ⟨rfl,hb2⟩;rw[HO.out];have s2:=hb2.size;have hP2:=znh;have hF2:=zfm))
     exact y5u
   ·have ho':E6 F2 r1=false:=by simpa using ho
    have HO:=J ho';by_cases hg:Dg r1=true
    ·have HG:=J hg;have h1s:=fun w h=>hSub k r1 w oQ oQ h;have heS:=(DO true k).2.2.2.2.1 r1;have hnS:=(Ex true k).2.2.2.2.1 r1;cases hsub:EJ true k r1 with
     | none =>
      rw[hsub]at h1s;have hS:=h1s;clear h1s;have HXN:Hid (X=A0):=J QD;clear heS hnS hsub hA1
      go_wp2_with (first
       |(go_at_call 250;refine (hS _ (hP3)).mono ?_;rintro e w5 hh;obtain⟨rfl,hF5⟩:=hh.bad;have hF5':AF g w w5:=hF.trans (hF3.trans hF5))
       |(go_at_call 196;refine (is_c g l r1 F2 _ hP4).mono ?_;rintro e w3 ⟨rfl,hb3⟩;rw[HO.out];have s3:=hb3.size;have hP3:=hP4.below hb3;have hF3:AF g wr w3:=hF4.trans (.of_below hb3))
       |(go_at_call 251;refine (begins_c g l r1 _ hP2).mono ?_;rintro e w4 ⟨rfl,hb4⟩;rw[HG.out];have s4:=hb4.size;have hP4:=hP2.below hb4;have hF4:=zly)
       |(go_at_call 196;refine (is_c g l r1 F2 _ hPr).mono ?_;rintro e w2 ⟨rfl,hb2⟩;rw[HO.out];have s2:=hb2.size;have hP2:=znh;have hF2:=zfm))
      refine⟨rfl,?_⟩;rw[HXN.out];exact⟨rfl,hF5'⟩
     | some p =>
      obtain⟨q2,r2⟩:=p;rw[hsub]at h1s;have hS:=h1s;clear h1s;have hes:=heS q2 r2 hsub;have hns:=hnS q2 r2 hsub;have hrl2:=hes.1.length_le;have HXX:Hid (Fw true k (acc++[q2]) r2=X):=J QD;clear heS hnS hsub hA1
      go_wp2_with (first
       |(at_builtin;go_must (refine wpList_append_sl rfl _ _ 27 rfl (w.heap.size+1) 29 i0 _ 6 80 DG HI.out hz0 hz1 hz2 rfl oX _ T.length _ rfl (hown5.alloc _) (A3 ⟨_,0,A0⟩) 1 1 [.int .i64 qo,.int .i64 qf,.slice qsa qsn qsc,.int .i64 qa,.int .i64 qb,.slice qka qkn qkc] rfl rfl oF oD oG oK oQ oW ?_);intro v' w7 hown7 hg7 hnil7)
       |(go_at_call 250;refine (hS _ (hP3)).mono ?_;rintro e w5 hh;obtain⟨qo,qf,qa,qb,qsa,qsn,qsc,qka,qkn,qkc,rfl,hq5,hP5,hF5⟩:=hh.get;clear hh;have s5:=hF5.size;have s5':w3.heap.size<=w5.heap.size:=s5;have hF35:AF g wr w5:=hF3.trans hF5;have hown5:=zjo;have hBq:Hid (w3.heap.size=w3.heap.size):=J rfl)
       |(go_at_call 196;refine (is_c g l r1 F2 _ hP4).mono ?_;rintro e w3 ⟨rfl,hb3⟩;rw[HO.out];have s3:=hb3.size;have hP3:=hP4.below hb3;have hF3:AF g wr w3:=hF4.trans (.of_below hb3))
       |(go_at_call 251;refine (begins_c g l r1 _ hP2).mono ?_;rintro e w4 ⟨rfl,hb4⟩;rw[HG.out];have s4:=hb4.size;have hP4:=hP2.below hb4;have hF4:=zly)
       |(go_at_call 196;refine (is_c g l r1 F2 _ hPr).mono ?_;rintro e w2 ⟨rfl,hb2⟩;rw[HO.out];have s2:=hb2.size;have hP2:=znh;have hF2:=zfm))
      exact y5u
    ·have hg':Dg r1=false:=by simpa using hg
     have HG:=J hg';have HXN:Hid (X=A3 (GI 5 acc,r1)):=J (by rw[<- hLX.out,Fw,if_neg ho,if_neg hg]);clear ho ho' hg hg' hA1
     go_wp2_with (first
      |(go_at_call 197;refine (joined_c (w.heap.size+1) 5 acc va vc _ (hka.fr hF4 (show g<w.heap.size+1 by omega)) oQ oQ).mono ?_;rintro e w9 ⟨⟨qo,qf,qsa,qsn,qsc,qa,qb,qka,qkn,qkc⟩,rfl,hq9,hb9⟩;simp only[Bb]at hq9;have s9:=hb9.size;have hF9:AF g wr w9:=hF4.trans (.of_below hb9);have hP9:=hP4.below hb9;have kR9:=zni;obtain⟨z0,z1,z2,z3,z4,z5,fr9⟩:=Tx.c6 kR9;obtain⟨ta9,tc9,kg9,_,_⟩:=hP9.blk;have KP9:=J kg9;clear kg9 kR9)
      |(go_at_call 251;refine (begins_c g l r1 _ hP2).mono ?_;rintro e w4 ⟨rfl,hb4⟩;rw[HG.out];have s4:=hb4.size;have hP4:=hP2.below hb4;have hF4:=zly)
      |(go_at_call 196;refine (is_c g l r1 F2 _ hPr).mono ?_;rintro e w2 ⟨rfl,hb2⟩;rw[HO.out];have s2:=hb2.size;have hP2:=znh;have hF2:=zfm))
     refine Aw (v:=.agg #[.int .i64 qo,.int .i64 qf,.slice qsa qsn qsc,.int .i64 qa,.int .i64 qb,.slice qka qkn qkc]) (by simp[results,Tryz.results195,go_sem,z0,z1,z2,z3,z4,z5]) rfl ?_;exact ynj
end
section
attribute [local go_sem] G3 G4 G5
theorem or_c (g n:Nat) (l:List AM) (hl:l.length<=400000) (hSub:∀ (m:Nat) (r:List AM) (w:Ab),m<=n->8*r.length+6<=m->B1 g l r w->Af A8 195 #[.pointer (A3 ⟨g,0,A0⟩)] w (DU g l (GX true m r) w))
  (r:List AM) (w:Ab) (hn:8*r.length+7<=n+1) (hP:B1 g l r w) :
  Af A8 117 #[.pointer (A3 ⟨g,0,A0⟩)] w (DU g l (DN true (n+1) r) w):=by
 obtain⟨i0,hi0,hz0,hz1,hz2⟩:=zms;have HI:=J hi0;clear hi0;have hgl:=hP.lt;have hrl:=hP.suf.length_le;have hmx:maxLen=9223372036854775807:=rfl;have hP0:=zr;have h1:=zpb;have he:=(DO true n).2.2.1 r;have hb0:=(Ex true n).2.2.1 r
 have e0:DN true (n+1) r=match GX true n r with
   | none=>A0
   | some (q,r')=>Jt true n [q] r':=by rw[DN];rfl
 cases ho:GX true n r with
 | none =>
  rw[ho]at h1 e0;rw[e0];clear he hb0 e0 hP hSub;go_enter Tryz.func117,Tryz.ntmps117;go_wp2_with (go_at_call 195;refine (h1 _ hP0).mono ?_;rintro e w1 hh;obtain⟨rfl,hF1⟩:=hh.bad;have hF1':AF g w w1:=((Bh g w).alloc _).trans hF1);exact⟨rfl,rfl,hF1'⟩
 | some p =>
  obtain⟨q0,r0⟩:=p;rw[ho]at h1 e0;have hs0:=he q0 r0 ho;have hn0:=hb0 q0 r0 ho;obtain⟨X,hX⟩:∃ X,Jt true n [q0] r0=X:=⟨_,rfl⟩;rw[e0];simp only;rw[hX];have HX:=J hX;clear he hb0 e0 hX ho hP;go_enter Tryz.func117,Tryz.ntmps117;go_wp2_with (go_at_call 195;refine (h1 _ hP0).mono ?_;rintro e w1 hh;obtain⟨qo,qf,qa,qb,qsa,qsn,qsc,qka,qkn,qkc,rfl,hq1,hP1,hF1⟩:=hh.get;clear hh;have s1:=hF1.size;simp only[An]at s1 hq1;have kR1:=zdn;have hF1':AF g w w1:=((Bh g w).alloc _).trans hF1);go_loopw [3] (fun v wr=>∃ (m:Nat) (acc:List Cq) (T:List Qr.QT) (r1:List AM),m<=n/\8*r1.length+7<=m/\Hid (Jt true m acc r1=X)/\Hid (acc≠[])/\CO acc+acc.length+2*r1.length<=2*r.length/\Qr.HL (w.heap.size+1) wr v.ownBlock acc T/\wr.ownsRow (w.heap.size+1) 29 6 v T.length (T.flatMap Bb)/\B1 g l r1 wr/\wr.heap[w.heap.size]?=A3 (.cells AO 29 (0,0))/\AF g w wr) (fun _ w=>l.length - Qr.atOf g w)
  case atStart =>
   exact yff
  case round =>
   obtain⟨m,acc,T,r1,hm,hmr,hLX,hne,hnd,hHL,hown,hPr,hR,hF⟩:=hrel;have hTl:=hHL.1;have hrs:=hPr.suf.length_le;obtain⟨va,vc,rfl,hka⟩:=hHL.ka hown;have hownb:=zbf;have HOW:=J hownb;clear hownb;obtain⟨k,hk⟩:=znu;subst hk;have hws:=hF.size;have hRl:=(AA.1 hR).1;have hat:=hPr.at_;have HAT:=J hat;clear hat;have HRR:=J hR;clear hR;obtain⟨A1,hA1⟩:∃ A1,l.length - r1.length=A1:=⟨_,rfl⟩;have hw1:=zph;have HA1:=J hA1;by_cases ho:E6 Io r1=true
   ·have hte1:=EQ (Ji ho)
    have hA2:(A1:Int)+1=((l.length - r1.tail.length:Nat):Int):=by
     have h1:=hte1.2;rw[Cl]at h1 ⊢;omega
    have HT1:=J hte1;have HA2:=zla;have HO:=J ho;have hrt:=hte1.2;clear hA2 hte1;have h1s:=zor;have heS:=(DO true k).2.2.1 r1.tail;have hnS:=(Ex true k).2.2.1 r1.tail;cases hsub:GX true k r1.tail with
    | none =>
     rw[hsub]at h1s;have hS:=h1s;clear h1s;have HXN:Hid (X=A0):=J zsp;clear heS hnS hsub hA1
     go_wp2_with (first
      |(go_at_call 195;refine (hS _ (hP2.adv HT1.out.1 HA2.out)).mono ?_;rintro e w5 hh;obtain⟨rfl,hF5⟩:=hh.bad;have hF5':AF g w w5:=hF.trans ((hF2.set rfl _).trans hF5))
      |(go_at_call 196;refine (is_c g l r1 Io _ hPr).mono ?_;rintro e w2 ⟨rfl,hb2⟩;rw[HO.out];have s2:=hb2.size;have hP2:=znh;have hF2:=zfm;obtain⟨pta,ptc,pc0,pc1,pfz⟩:=hP2.cells;rw[HA1.out]at pc1))
     refine⟨rfl,?_⟩;rw[HXN.out];exact⟨rfl,hF5'⟩
    | some p =>
     obtain⟨q2,r2⟩:=p;rw[hsub]at h1s;have hS:=h1s;clear h1s;have hes:=heS q2 r2 hsub;have hns:=hnS q2 r2 hsub;have hrl2:=hes.1.length_le;have HXX:Hid (Jt true k (acc++[q2]) r2=X):=J zsp;clear heS hnS hsub hA1
     go_wp2_with (first
      |(at_builtin;go_must (refine wpList_append_sl rfl _ _ 27 rfl (w.heap.size+1) 29 i0 _ 6 80 DG HI.out hz0 hz1 hz2 rfl oX _ T.length _ rfl (hown5.alloc _) (A3 ⟨_,0,A0⟩) 1 1 [.int .i64 qo,.int .i64 qf,.slice qsa qsn qsc,.int .i64 qa,.int .i64 qb,.slice qka qkn qkc] rfl rfl oF oD oG oK oQ oW ?_);intro v' w7 hown7 hg7 hnil7)
      |(go_at_call 195;refine (hS _ (hP2.adv HT1.out.1 HA2.out)).mono ?_;rintro e w5 hh;obtain⟨qo,qf,qa,qb,qsa,qsn,qsc,qka,qkn,qkc,rfl,hq5,hP5,hF5⟩:=hh.get;clear hh;have s5:=hF5.size;have s5':w2.heap.size<=w5.heap.size:=ztf;have hF35:AF g wr w5:=(hF2.set rfl _).trans hF5;have hown5:=zjo;have hBq:Hid ((w2.setCell ⟨g,1,A0⟩ (.int .i64 ((A1:Int)+1))).heap.size=w2.heap.size):=J eX)
      |(go_at_call 196;refine (is_c g l r1 Io _ hPr).mono ?_;rintro e w2 ⟨rfl,hb2⟩;rw[HO.out];have s2:=hb2.size;have hP2:=znh;have hF2:=zfm;obtain⟨pta,ptc,pc0,pc1,pfz⟩:=hP2.cells;rw[HA1.out]at pc1))
     exact y5u
   ·have ho':E6 Io r1=false:=by simpa using ho
    have HO:=J ho';have HXN:Hid (X=A3 (GI 6 acc,r1)):=J (by rw[<- hLX.out,Jt,if_neg ho]);clear ho ho' hA1
    go_wp2_with (first
     |(go_at_call 197;refine (joined_c (w.heap.size+1) 6 acc va vc _ (hka.fr hF2 (show g<w.heap.size+1 by omega)) oQ oQ).mono ?_;rintro e w9 ⟨⟨qo,qf,qsa,qsn,qsc,qa,qb,qka,qkn,qkc⟩,rfl,hq9,hb9⟩;simp only[Bb]at hq9;have s9:=hb9.size;have hF9:AF g wr w9:=hF2.trans (.of_below hb9);have hP9:=hP2.below hb9;have kR9:=zni;obtain⟨z0,z1,z2,z3,z4,z5,fr9⟩:=Tx.c6 kR9;obtain⟨ta9,tc9,kg9,_,_⟩:=hP9.blk;have KP9:=J kg9;clear kg9 kR9)
     |(go_at_call 196;refine (is_c g l r1 Io _ hPr).mono ?_;rintro e w2 ⟨rfl,hb2⟩;rw[HO.out];have s2:=hb2.size;have hP2:=znh;have hF2:=zfm))
    refine Aw (v:=.agg #[.int .i64 qo,.int .i64 qf,.slice qsa qsn qsc,.int .i64 qa,.int .i64 qb,.slice qka qkn qkc]) (by simp[results,Tryz.results117,go_sem,z0,z1,z2,z3,z4,z5]) rfl ?_;exact ynj
end
theorem readers (g:Nat) (l:List AM) (hl:l.length<=400000):∀ n:Nat,
  (∀ (m:Nat) (r:List AM) (w:Ab),m<=n->8*r.length+7<=m->B1 g l r w->Af A8 117 #[.pointer (A3 ⟨g,0,A0⟩)] w (DU g l (DN true m r) w)) /\
  (∀ (m:Nat) (r:List AM) (w:Ab),m<=n->8*r.length+6<=m->B1 g l r w->Af A8 195 #[.pointer (A3 ⟨g,0,A0⟩)] w (DU g l (GX true m r) w)) /\
  (∀ (m:Nat) (r:List AM) (w:Ab),m<=n->8*r.length+5<=m->B1 g l r w->Af A8 250 #[.pointer (A3 ⟨g,0,A0⟩)] w (DU g l (EJ true m r) w)) /\
  (∀ (m:Nat) (r:List AM) (w:Ab),m<=n->8*r.length+4<=m->B1 g l r w->Af A8 287 #[.pointer (A3 ⟨g,0,A0⟩)] w (DU g l (Db true m r) w))
 | 0=>⟨fun m r w h1 h2 _=>oQ,fun m r w h1 h2 _=>oQ,fun m r w h1 h2 _=>oQ,fun m r w h1 h2 _=>oQ⟩
 | n+1=>by
  obtain⟨h1,h2,h3,h4⟩:=readers g l hl n;refine⟨fun m r w hm hn hP=>?_,fun m r w hm hn hP=>?_,fun m r w hm hn hP=>?_,fun m r w hm hn hP=>?_⟩
  ·by_cases hle:m<=n
   ·exact h1 m r w hle hn hP
   ·obtain rfl:m=n+1:=oQ;exact or_c g n l hl h2 r w hn hP
  ·by_cases hle:m<=n
   ·exact h2 m r w hle hn hP
   ·obtain rfl:m=n+1:=oQ;exact and_c g n l hl h3 r w hn hP
  ·by_cases hle:m<=n
   ·exact h3 m r w hle hn hP
   ·obtain rfl:m=n+1:=oQ;exact not_c g n l (fun r w h hP=>h4 n r w (Ad _) h hP) r w hn hP
  ·by_cases hle:m<=n
   ·exact h4 m r w hle hn hP
   ·obtain rfl:m=n+1:=oQ;exact prim_c g n l (fun r w h hP=>h1 n r w (Ad _) h hP) r w hn hP
end Go.Proofs.YtlakomilichhnaaGreatDoor
