/- Texts of this seat's, what the claim needs of them. -/
import Derived.Test.YtlakomilichhnaaGreatDoorYXOh
import Derived.Test.YtlakomilichhnaaGreatDoorZOf
namespace Go.Proofs.YtlakomilichhnaaGreatDoor
set_option maxHeartbeats 3200000
set_option maxRecDepth 100000
open Go.RowKit
open Br renaming cells_new_at→AR
open Go renaming Addr→Ao,Calls→Ac,World→A9,cell_later→A0,heap_alloc_new→Ar,info_parts→BR,maxLen→Au
open Ix renaming Mod→EI,OwnT→AX,begB→EL,encP→Il,ltK→Hm,own_lower→Cr,own_sla→C9,own_snoc→MJ,p_one→Nh,pick→Cz,plainB→Cm,wordsF→EZ
open Lib renaming hid→J,size_eq→Ak,toList_data→AA
open List renaming append_assoc→B0,append_nil→AD,drop_eq_getElem_cons→BG,drop_eq_nil_of_le→AB,drop_length→D6,eq_nil_of_length_eq_zero→Aw,flatMap_append→BB,getElem?_eq_getElem→A7,getElem?_eq_some_iff→Ai,getElem?_map→AE,length_append→Af,length_cons→AO,length_map→At,length_take→Az,map_append→AS,map_cons→Cf,mem_cons→B9,mem_cons_self→AY,mem_of_getElem?→Ag,mem_of_mem_take→Cb,take_append_drop→BJ,take_length→Ap,take_succ_eq_append_getElem→Cg,take_zero→Bt
open Nat renaming zero_le→Ae
open Option renaming none→A4,some→A2
open Proofs.Tryz renaming func70→GV,func79→MR,ntmps70→Gl,ntmps79→LQ,prog→A3,underlying22→G0,underlying26→Bb
open Rc renaming Fl→BS,FldA→AV,tagIs→AQ
open RowKit renaming Below→A6,intOf→Ad
open RowKit.Below renaming refl→Ab
open Tx renaming blk→Aq,newb→Aa,step→A8,words→Bh
open Value renaming oneCell'→AT,string→AW
open World renaming ownsRow_nil→AH
namespace Rc
end Rc
theorem r20_joined_c (x y:List Ix.By) (a b:Option Ao) (c d:Nat) (w:A9) (hx:SLA w a c (x.map fun x=>(⟨x.toArray⟩:ByteArray))) (hy:SLA w b d (y.map fun x=>(⟨x.toArray⟩:ByteArray))) (hl:x.length+y.length≤50000000) :
  Ac A3 138 #[.slice a x.length c,.slice b y.length d] w fun e w'=>∃ v,e=.returned v∧AX w' w.heap.size v (x++y)∧A6 w.heap.size w w':=by
 obtain⟨i0,hi0,hz0,hz1,hz2⟩:=BR info_str
 have HI:=J hi0;clear hi0
 have hcx:=hx.cap
 have hcy:=hy.cap
 rw[At]at hcx hcy
 have HX:=J hx;have HY:=J hy
 clear hx hy
 go_enter Tryz.func138,Tryz.ntmps138
 go_wp2
 go_loopw [5,6] (fun v i wr=>∃ (k:Nat),k≤x.length∧i=.int .i64 k∧AX wr w.heap.size v (x.take k)∧A6 w.heap.size w wr) (fun _ i _=>x.length - (Ad i).toNat)
 case atStart=>exact⟨0,Ae _,rfl,AH _ _ _ _,Ab _ _⟩
 case round =>
  obtain⟨k,hk,rfl,hown,hb⟩:=hrel
  have hbs:=hb.size
  by_cases hlt:k<x.length
  ·obtain⟨z,hz⟩:∃ z,x[k]?=A2 z:=⟨_,A7 hlt⟩
   obtain⟨B,o,rfl,hbl,c0⟩:=HX.out.get (k:=k) (x:=⟨z.toArray⟩) (by rw[AE,hz];rfl)
   replace c0:=A0 hb c0
   have htk:x.take (k+1)=x.take k++[z]:=by rw[Cg hlt,A7 hlt]at *;injection hz with hz;rw[hz]
   have hkl:(x.take k).length=k:=by rw[Az];omega
   have HT:=J htk;clear htk
   have HK:=J hkl;clear hkl
   go_wp2_with (at_builtin;go_must (refine wpList_append_sl rfl _ _ 26 rfl w.heap.size 9 i0 _ 1 16 Bb HI.out hz0 hz1 hz2 rfl (by decide) _ (x.take k).length _ rfl (hown.alloc _) (A2 ⟨_,0,A4⟩) 1 1 [AW ⟨z.toArray⟩] rfl rfl (fun h9=>by cases h9) (fun ad had=>by cases had;exact AR _ _ (by first | rfl | simp) _ _) (by simp[AT]) (by unfold Au;have:=HK.out;omega) (by have:=HK.out;omega) (by simp;omega) ?_);intro v' w7 hown7 hg7 hnil7)
   go_roundw
   case rel=>exact⟨k+1,hlt,by go_num,by unfold AX;rw[HT.out,Af,AS];exact hown7,(hb.alloc hbs _).grown hg7 (by simp;omega) (fun j hj=>(hown.lt j hj).1)⟩
   case measure=>simp[Ad];omega
  ·obtain rfl:k=x.length:=by omega
   rw[Ap]at hown
   clear hlt
   go_wp2
   go_loopw [5,7] (fun v i wr=>∃ (k:Nat),k≤y.length∧i=.int .i64 k∧AX wr w.heap.size v (x++y.take k)∧A6 w.heap.size w wr) (fun _ i _=>y.length - (Ad i).toNat)
   case atStart=>exact⟨0,Ae _,rfl,by rw[Bt,AD];exact hown,hb⟩
   case round =>
    obtain⟨k,hk,rfl,hown,hb⟩:=hrel
    have hbs:=hb.size
    by_cases hlt:k<y.length
    ·obtain⟨z,hz⟩:∃ z,y[k]?=A2 z:=⟨_,A7 hlt⟩
     obtain⟨B,o,rfl,hbl,c0⟩:=HY.out.get (k:=k) (x:=⟨z.toArray⟩) (by rw[AE,hz];rfl)
     replace c0:=A0 hb c0
     have htk:x++y.take (k+1)=(x++y.take k)++[z]:=by rw[Cg hlt,B0];rw[A7 hlt]at hz;injection hz with hz;rw[hz]
     have hkl:(x++y.take k).length=x.length+k:=by rw[Af,Az];omega
     have HT:=J htk;clear htk
     have HK:=J hkl;clear hkl
     go_wp2_with (at_builtin;go_must (refine wpList_append_sl rfl _ _ 26 rfl w.heap.size 9 i0 _ 1 16 Bb HI.out hz0 hz1 hz2 rfl (by decide) _ (x++y.take k).length _ rfl (hown.alloc _) (A2 ⟨_,0,A4⟩) 1 1 [AW ⟨z.toArray⟩] rfl rfl (fun h9=>by cases h9) (fun ad had=>by cases had;exact AR _ _ (by first | rfl | simp) _ _) (by simp[AT]) (by unfold Au;have:=HK.out;omega) (by have:=HK.out;omega) (by simp;omega) ?_);intro v' w7 hown7 hg7 hnil7)
     go_roundw
     case rel=>exact⟨k+1,hlt,by go_num,by unfold AX;rw[HT.out,Af,AS];exact hown7,(hb.alloc hbs _).grown hg7 (by simp;omega) (fun j hj=>(hown.lt j hj).1)⟩
     case measure=>simp[Ad];omega
    ·obtain rfl:k=y.length:=by omega
     rw[Ap]at hown
     go_wp2
     go_ret
     exact⟨_,rfl,hown,hb⟩
namespace Ix
open Rc
theorem flat_take {α β:Type} (g:α→List β) {l:List α}{k:Nat}{x:α} (h:l[k]?=A2 x):(l.take (k+1)).flatMap g=(l.take k).flatMap g++g x:=by
 have hlt:=(Ai.1 h).1
 rw[Cg hlt,BB]
 rw[A7 hlt]at h
 injection h with h
 rw[h]
 simp
theorem flat_le {α β:Type} (g:α→List β) (l:List α) (k:Nat):((l.take k).flatMap g).length≤(l.flatMap g).length:=by
 conv=>rhs;rw[← BJ k l]
 rw[BB,Af]
 omega
end Ix
theorem SLA.grown {w w':A9}{row:Option Nat}{a:Option Ao}{c:Nat}{xs:List ByteArray} (h:SLA w a c xs) (hg:w.grownBy w' row) (hne:∀ g,a=A2 g→A2 g.block≠row):SLA w' a c xs:=by
 by_cases h0:xs=[]
 ·subst h0
  exact⟨h.cap,h.max,0,0,fun h9=>absurd rfl h9,fun j x hx=>by simp at hx⟩
 ·obtain⟨b,o,h1,h2⟩:=h.at_
  obtain⟨ha,hb⟩:=h1 h0
  exact⟨h.cap,h.max,b,o,fun _=>⟨ha,Nat.lt_of_lt_of_le hb hg.size⟩,fun j x hx=>(hg.cell_far ⟨b,o+j,A4⟩ hb (show A2 b≠row from hne _ ha)).trans (h2 j x hx)⟩
theorem r20_words_c (f:BS) (a:Option Ao) (c:Nat) (codes:ByteArray) (w:A9) (h:Rc.SubA w a c f.subs) (hl:f.subs.length≤1000) (hs:codes.size≤1000) (hz:∀ x∈f.subs,x.2.size≤100000) (hn:(EZ f codes.data.toList).length≤100000) :
  Ac A3 140 #[.agg #[.string f.tag,.string f.ind,.slice a f.subs.length c,.int .i64 f.auth],.string codes] w fun e w'=>∃ v,e=.returned v∧AX w' w.heap.size v (EZ f codes.data.toList)∧A6 w.heap.size w w':=by
 obtain⟨i0,hi0,hz0,hz1,hz2⟩:=BR info_str
 have HI:=J hi0;clear hi0
 obtain⟨W,hW⟩:∃ W,w.alloc (.cells #[.string f.tag,.string f.ind,.slice a f.subs.length c,.int .i64 f.auth] 84)=W:=⟨_,rfl⟩
 have hB:A6 w.heap.size w W:=by rw[← hW];exact Aa _ _
 have KF:Hid (W.heap[w.heap.size]?=A2 (.cells #[.string f.tag,.string f.ind,.slice a f.subs.length c,.int .i64 f.auth] 84 (0,0))):=J (by rw[← hW];exact Ar w _)
 have c0:W.cell? ⟨w.heap.size,0,A4⟩=A2 (.string f.tag):=(Aq KF.out).1 0
 have c1:W.cell? ⟨w.heap.size,1,A4⟩=A2 (.string f.ind):=(Aq KF.out).1 1
 have c2:W.cell? ⟨w.heap.size,2,A4⟩=A2 (.slice a f.subs.length c):=(Aq KF.out).1 2
 have c3:W.cell? ⟨w.heap.size,3,A4⟩=A2 (.int .i64 f.auth):=(Aq KF.out).1 3
 have HS:=J (h.below hB);clear h
 obtain⟨L,hL⟩:∃ L,Rc.allV f.subs codes.data.toList=L:=⟨_,rfl⟩
 have hLz:∀ x∈L,x.size≤100000:=fun x hx=>by
  rw[← hL]at hx
  unfold Rc.allV at hx
  obtain⟨y,hy,rfl⟩:=List.mem_map.1 hx
  exact hz y (List.mem_filter.1 hy).1
 have hLl:L.length≤1000:=by rw[← hL];unfold Rc.allV;rw[At];exact Nat.le_trans (List.length_filter_le _ _) hl
 have hWF:EZ f codes.data.toList=L.flatMap fun s=>Bh s.data.toList:=by unfold EZ;rw[hL]
 rw[hWF]at hn ⊢
 have hle:=fun k=>Ix.flat_le (fun s:ByteArray=>Bh s.data.toList) L k
 have HLE:=J hle;have HLZ:=J hLz;have HL:=J hL
 clear hle hLz hL hWF hz
 have hn':=hn
 go_enter Tryz.func140,Tryz.ntmps140
 go_wp2_with (go_at_call 142;((with_reducible refine (r07_All_c f a c codes _ HS.out hl hs).mono ?_);rintro e w1 ⟨va,vc,rfl,hsl,hb1⟩;rw[HL.out]at hsl ⊢;have HSL:=J hsl;clear hsl;have k1:=A8 hB hb1;have s1:=hb1.size))
 clear hW
 have hcap:=HSL.out.cap
 go_loopw [5,7] (fun v i wr=>∃ (k:Nat),k≤L.length∧i=.int .i64 k∧AX wr w1.heap.size v ((L.take k).flatMap fun s=>Bh s.data.toList)∧A6 w1.heap.size w1 wr) (fun _ i _=>L.length - (Ad i).toNat)
 case atStart=>exact⟨0,Ae _,rfl,AH _ _ _ _,Ab _ _⟩
 case round =>
  obtain⟨k,hk,rfl,hown,hb⟩:=hrel
  have hbs:=hb.size
  by_cases hlt:k<L.length
  ·have hw9:=IntWalk.i64_in ((k:Int)+1) ⟨by omega,by omega⟩
   obtain⟨z,hz⟩:∃ z,L[k]?=A2 z:=⟨_,A7 hlt⟩
   obtain⟨B,o,rfl,hbl,e0⟩:=HSL.out.get hz
   replace e0:=A0 hb e0
   have hft:=Ix.flat_take (fun s:ByteArray=>Bh s.data.toList) hz
   have hzs:=HLZ.out z (Ag hz)
   have hk1:=HLE.out (k+1)
   rw[hft]at hk1
   obtain⟨acc,hacc⟩:∃ acc,(L.take k).flatMap (fun s:ByteArray=>Bh s.data.toList)=acc:=⟨_,rfl⟩
   obtain⟨ws,hws⟩:∃ ws,Bh z.data.toList=ws:=⟨_,rfl⟩
   simp only[hacc,hws,Af]at hk1 hft
   rw[hacc]at hown
   have HFT:=J hft;have HWS:=J hws
   clear hft hacc hws hz
   go_wp2_with (go_at_call 212;((with_reducible refine (r01_Words_c z _ (by omega)).mono ?_);rintro e w2 ⟨v2,rfl,hown2,hb2⟩;rw[HWS.out]at hown2;obtain⟨a2,c2',rfl,hs2⟩:=C9 hown2;have HS2:=J hs2;have hlo2:∀ ad,a2=A2 ad→wr.heap.size≤ad.block∧ad.block<w2.heap.size:=(fun ad h=>by subst h;exact hown2.lt _ rfl);clear hs2 hown2;have own3:=own_below hown hb2;have k2:=hb.trans (hb2.mono hbs);have s2:=hb2.size))
   have hcap2:=HS2.out.cap
   rw[At]at hcap2
   go_loopw [5,9] (fun v i wr=>∃ (j:Nat),j≤ws.length∧i=.int .i64 j∧AX wr w1.heap.size v (acc++ws.take j)∧A6 w1.heap.size w1 wr∧Hid (SLA wr a2 c2' (ws.map fun x=>(⟨x.toArray⟩:ByteArray)))∧(∀ ad,a2=A2 ad→v.ownBlock≠A2 ad.block∧ad.block<wr.heap.size)) (fun _ i _=>ws.length - (Ad i).toNat)
   case atStart=>exact⟨0,Ae _,rfl,by rw[Bt,AD];exact own3,k2,HS2,fun ad h=>⟨fun e=>by have:=(hown.lt _ e).2;have:=(hlo2 ad h).1;omega,(hlo2 ad h).2⟩⟩
   case round =>
    obtain⟨j,hj,rfl,hown4,hb4,hs4,hne4⟩:=hrel
    have hbs4:=hb4.size
    by_cases hlt2:j<ws.length
    ·obtain⟨y,hy⟩:∃ y,ws[j]?=A2 y:=⟨_,A7 hlt2⟩
     obtain⟨B2,o2,rfl,hbl2,e2⟩:=hs4.out.get (k:=j) (x:=⟨y.toArray⟩) (by rw[AE,hy];rfl)
     have htk:acc++ws.take (j+1)=(acc++ws.take j)++[y]:=by rw[Cg hlt2,B0];rw[A7 hlt2]at hy;injection hy with hy;rw[hy]
     have hkl:(acc++ws.take j).length=acc.length+j:=by rw[Af,Az];omega
     have HT:=J htk;clear htk
     have HK:=J hkl;clear hkl
     go_wp2_with (at_builtin;go_must (refine wpList_append_sl rfl _ _ 26 rfl w1.heap.size 9 i0 _ 1 16 Bb HI.out hz0 hz1 hz2 rfl (by decide) _ (acc++ws.take j).length _ rfl (hown4.alloc _) (A2 ⟨_,0,A4⟩) 1 1 [AW ⟨y.toArray⟩] rfl rfl (fun h9=>by cases h9) (fun ad had=>by cases had;exact AR _ _ (by first | rfl | simp) _ _) (by simp[AT]) (by unfold Au;have:=HK.out;omega) (by have:=HK.out;omega) (by simp;omega) ?_);intro v' w7 hown7 hg7 hnil7)
     go_roundw
     case rel=>exact⟨j+1,hlt2,by go_num,by unfold AX;rw[HT.out,Af,AS];exact hown7,(hb4.alloc hbs4 _).grown hg7 (by simp;omega) (fun i hi=>(hown4.lt i hi).1),J ((hs4.out.below (Aa _ _)).grown hg7 (fun g hg e=>(hne4 g hg).1 e.symm)),fun ad h=>⟨fun e=>by
      rcases hnil7 with h9 | h9
      ·rw[h9]at e;exact (hne4 ad h).1 e
      ·rw[h9]at e;injection e with e;have:=(hne4 ad h).2;simp at e;omega,by have:=(hne4 ad h).2;have:=hg7.size;simp at this;omega⟩⟩
     case measure=>simp[Ad];omega
    ·obtain rfl:j=ws.length:=by omega
     rw[Ap]at hown4
     go_wp2
     go_roundw
     case rel=>exact⟨k+1,hlt,by go_num,by rw[HFT.out];exact hown4,hb4⟩
     case measure=>simp[Ad];omega
  ·obtain rfl:k=L.length:=by omega
   rw[Ap]at hown
   go_wp2
   go_ret
   exact⟨_,rfl,⟨hown.1,by
    rcases hown.2 with h1 | ⟨g,cap,cur,h1,h2,h3,h4⟩
    ·exact .inl h1
    ·exact .inr ⟨g,cap,cur,h1,by have:=hB.size;omega,h3,h4⟩⟩,A8 k1 hb⟩
theorem r20_tagged_c (fs:List BS) (a:Option Ao) (c:Nat) (id ver kind:Int) (lang:ByteArray) (tag codes:ByteArray) (w:A9) (h:AV w a c fs) (hM:EI fs) (hs:codes.size≤1000) :
  Ac A3 139 #[.agg #[.int .i64 id,.int .i64 ver,.int .i64 kind,.string lang,.slice a fs.length c],.string tag,.string codes] w fun e w'=>∃ v,e=.returned v∧AX w' w.heap.size v (Cz (AQ tag.data.toList) codes.data.toList fs)∧A6 w.heap.size w w':=by
 obtain⟨W,hW⟩:∃ W,w.alloc (.cells #[.int .i64 id,.int .i64 ver,.int .i64 kind,.string lang,.slice a fs.length c] 51)=W:=⟨_,rfl⟩
 have hB:A6 w.heap.size w W:=by rw[← hW];exact Aa _ _
 have c4:W.cell? ⟨w.heap.size,4,A4⟩=A2 (.slice a fs.length c):=by rw[← hW];simp
 have HS:=J (h.below hB);clear h
 have hlen:=hM.len
 have hcap:=HS.out.cap
 have hbB:=hB.size
 go_enter Tryz.func139,Tryz.ntmps139
 go_wp2
 clear hW
 go_loopw [7,8] (fun v i wr=>∃ (k:Nat),k≤fs.length∧i=.int .i64 k∧AX wr w.heap.size v (Cz (AQ tag.data.toList) codes.data.toList (fs.take k))∧A6 w.heap.size w wr∧A6 W.heap.size W wr) (fun _ i _=>fs.length - (Ad i).toNat)
 case atStart=>exact⟨0,Ae _,rfl,AH _ _ _ _,hB,Ab _ _⟩
 case round =>
  obtain⟨k,hk,rfl,hown,hb,hbW⟩:=hrel
  have hbs:=hb.size
  have hbWs:=hbW.size
  replace c4:=A0 hbW c4
  by_cases hlt:k<fs.length
  ·obtain⟨f,hf⟩:∃ f,fs[k]?=A2 f:=⟨_,A7 hlt⟩
   have hfm:=Ag hf
   obtain⟨B,o,sa,sc,rfl,hbl,d0,d1,d2,d3,hsub⟩:=HS.out.get hf
   replace d0:=A0 hbW d0
   replace d1:=A0 hbW d1
   replace d2:=A0 hbW d2
   replace d3:=A0 hbW d3
   have HSUB:=J (hsub.below hbW);clear hsub
   have hpt:=Ix.pick_take (p:=AQ tag.data.toList) (codes:=codes.data.toList) hf
   have hpl:=Ix.pick_le (p:=AQ tag.data.toList) (codes:=codes.data.toList) (fs:=fs.take k) (fun g hg=>hM.words g (Cb hg) _)
   rw[Az]at hpl
   have hwf:=hM.words f hfm codes.data.toList
   have hsl:=hM.subs f hfm
   have HSZ:=J (hM.size f hfm)
   obtain⟨acc,hacc⟩:∃ acc,Cz (AQ tag.data.toList) codes.data.toList (fs.take k)=acc:=⟨_,rfl⟩
   rw[hacc]at hown hpt hpl
   have hpl2:acc.length≤1000000:=by omega
   clear hpl hacc
   by_cases ht:f.tag=tag
   ·have hti:AQ tag.data.toList f=true:=by unfold AQ;rw[ht];simp
    rw[if_pos hti]at hpt
    obtain⟨WF,hWF⟩:∃ ws,EZ f codes.data.toList=ws:=⟨_,rfl⟩
    rw[hWF]at hpt hwf
    have HPT:=J hpt;have HWF:=J hWF
    rw[ht]at d0
    have HT:=J ht
    clear hpt hWF hti hf ht
    have CW:Hid (∀ w',A6 wr.heap.size wr w'→Ac A3 140 #[.agg #[.string tag,.string f.ind,.slice sa f.subs.length sc,.int .i64 f.auth],.string codes] w' fun e w''=>∃ v,e=.returned v∧AX w'' w'.heap.size v WF∧A6 w'.heap.size w' w''):=J (fun w' hb'=>by
     have h9:=r20_words_c f sa sc codes w' (HSUB.out.below hb') hsl hs HSZ.out (by rw[HWF.out];omega)
     rw[HT.out,HWF.out]at h9
     exact h9)
    obtain⟨oa,oc,rfl,hso⟩:=C9 hown
    have HSO:=J hso;clear hso
    go_wp2_with (first
     |(go_at_call 138;((with_reducible refine (r20_joined_c acc WF oa va oc vc _ (HSO.out.below hb2) HSV.out (by omega)).mono ?_);rintro e w3 ⟨v3,rfl,hown3,hb3⟩;have s3:=hb3.size))
     |(go_at_call 140;((with_reducible refine (CW.out _ (Ab _ _)).mono ?_);rintro e w2 ⟨v2,rfl,hown2,hb2⟩;obtain⟨va,vc,rfl,hsv⟩:=C9 hown2;have HSV:=J hsv;clear hsv hown2;have s2:=hb2.size)))
    go_roundw
    case rel=>exact⟨k+1,hlt,by go_num,by rw[HPT.out];exact Cr hown3 (by omega),A8 (A8 hb hb2) hb3,A8 (A8 hbW hb2) hb3⟩
    case measure=>simp[Ad];omega
   ·have hti:¬ AQ tag.data.toList f=true:=by
     unfold AQ
     intro h9
     rw[beq_iff_eq]at h9
     exact ht (ByteArray.ext (Array.toList_inj.1 h9))
    rw[if_neg hti,AD]at hpt
    have HPT:=J hpt
    have ht2:(f.tag.data.toList == tag.data.toList)=false:=by simpa [AQ] using hti
    have ht3:(f.tag.toList == tag.toList)=false:=by rw[AA,AA];exact ht2
    clear hpt hti hf
    go_wp2
    go_roundw
    case rel=>exact⟨k+1,hlt,by go_num,by rw[HPT.out];exact hown,hb,hbW⟩
    case measure=>simp[Ad];omega
  ·obtain rfl:k=fs.length:=by omega
   rw[Ap]at hown
   go_wp2
   go_ret
   exact⟨_,rfl,hown,hb⟩
namespace Ix
open Rc
theorem begB_pos {d:UInt8}{f:Fl} (h:0<f.tag.size):begB d f=(f.tag[0]'h == d):=by
 unfold begB
 have h2:f.tag.data.toList.head?=A2 (f.tag[0]'h):=by
  rw[List.head?_eq_getElem?,Array.getElem?_toList,Array.getElem?_eq_getElem h]
  rfl
 rw[h2]
 rfl
theorem begB_nil {d:UInt8}{f:Fl} (h:f.tag.size=0):¬ begB d f=true:=by
 unfold begB
 have:f.tag.data.toList=[]:=Aw (by rw[← Ak];exact h)
 rw[this]
 simp
end Ix
theorem r20_begun_c (fs:List BS) (a:Option Ao) (c:Nat) (id ver kind:Int) (lang:ByteArray) (d:UInt8) (codes:ByteArray) (w:A9) (h:AV w a c fs) (hM:EI fs) (hs:codes.size≤1000) :
  Ac A3 141 #[.agg #[.int .i64 id,.int .i64 ver,.int .i64 kind,.string lang,.slice a fs.length c],.int .u8 d.toNat,.string codes] w fun e w'=>∃ v,e=.returned v∧AX w' w.heap.size v (Cz (EL d) codes.data.toList fs)∧A6 w.heap.size w w':=by
 obtain⟨W,hW⟩:∃ W,w.alloc (.cells #[.int .i64 id,.int .i64 ver,.int .i64 kind,.string lang,.slice a fs.length c] 51)=W:=⟨_,rfl⟩
 have hB:A6 w.heap.size w W:=by rw[← hW];exact Aa _ _
 have c4:W.cell? ⟨w.heap.size,4,A4⟩=A2 (.slice a fs.length c):=by rw[← hW];simp
 have HS:=J (h.below hB);clear h
 have hlen:=hM.len
 have hcap:=HS.out.cap
 have hbB:=hB.size
 go_enter Tryz.func141,Tryz.ntmps141
 go_wp2
 clear hW
 go_loopw [7,8] (fun v i wr=>∃ (k:Nat),k≤fs.length∧i=.int .i64 k∧AX wr w.heap.size v (Cz (EL d) codes.data.toList (fs.take k))∧A6 w.heap.size w wr∧A6 W.heap.size W wr) (fun _ i _=>fs.length - (Ad i).toNat)
 case atStart=>exact⟨0,Ae _,rfl,AH _ _ _ _,hB,Ab _ _⟩
 case round =>
  obtain⟨k,hk,rfl,hown,hb,hbW⟩:=hrel
  have hbs:=hb.size
  have hbWs:=hbW.size
  replace c4:=A0 hbW c4
  by_cases hlt:k<fs.length
  ·obtain⟨f,hf⟩:∃ f,fs[k]?=A2 f:=⟨_,A7 hlt⟩
   have hfm:=Ag hf
   obtain⟨B,o,sa,sc,rfl,hbl,d0,d1,d2,d3,hsub⟩:=HS.out.get hf
   replace d0:=A0 hbW d0
   replace d1:=A0 hbW d1
   replace d2:=A0 hbW d2
   replace d3:=A0 hbW d3
   have HSUB:=J (hsub.below hbW);clear hsub
   have hpt:=Ix.pick_take (p:=(EL d)) (codes:=codes.data.toList) hf
   have hpl:=Ix.pick_le (p:=(EL d)) (codes:=codes.data.toList) (fs:=fs.take k) (fun g hg=>hM.words g (Cb hg) _)
   rw[Az]at hpl
   have hwf:=hM.words f hfm codes.data.toList
   have hsl:=hM.subs f hfm
   have HSZ:=J (hM.size f hfm)
   obtain⟨acc,hacc⟩:∃ acc,Cz (EL d) codes.data.toList (fs.take k)=acc:=⟨_,rfl⟩
   rw[hacc]at hown hpt hpl
   have hpl2:acc.length≤1000000:=by omega
   clear hpl hacc
   by_cases hz:f.tag.size=0
   ·have hti:=Ix.begB_nil (d:=d) hz
    have hte:(f.tag.toList == [])=true:=by
     rw[AA,Aw (by rw[← Ak];exact hz:f.tag.data.toList.length=0)]
     rfl
    rw[if_neg hti,AD]at hpt
    have HPT:=J hpt
    clear hpt hti hf
    go_wp2
    go_roundw
    case rel=>exact⟨k+1,hlt,by go_num,by rw[HPT.out];exact hown,hb,hbW⟩
    case measure=>simp[Ad];omega
   ·have h0:0<f.tag.size:=by omega
    have hte:(f.tag.toList == [])=false:=by
     rw[AA,beq_eq_false_iff_ne]
     intro h9
     have:=congrArg List.length h9
     rw[← Ak]at this
     exact hz this
    obtain⟨x,hx⟩:∃ x,f.tag[0]'h0=x:=⟨_,rfl⟩
    have hxx:∀ h,f.tag[0]'h=x:=fun _=>hx
    have hbp:=Ix.begB_pos (d:=d) (f:=f) h0
    rw[hx]at hbp
    have hgu:=Rc.u8_eq (a:=x) (b:=d)
    clear hx
    by_cases hxd:x=d
    ·have hti:EL d f=true:=by rw[hbp,hxd];simp
     have hq2:(x == d)=true:=by simpa using hxd
     rw[hq2]at hgu
     rw[if_pos hti]at hpt
     clear hbp hq2 hxd
     obtain⟨WF,hWF⟩:∃ ws,EZ f codes.data.toList=ws:=⟨_,rfl⟩
     rw[hWF]at hpt hwf
     have HPT:=J hpt;have HWF:=J hWF
     clear hpt hWF hti hf
     have CW:Hid (∀ w',A6 wr.heap.size wr w'→Ac A3 140 #[.agg #[.string f.tag,.string f.ind,.slice sa f.subs.length sc,.int .i64 f.auth],.string codes] w' fun e w''=>∃ v,e=.returned v∧AX w'' w'.heap.size v WF∧A6 w'.heap.size w' w''):=J (fun w' hb'=>by
      have h9:=r20_words_c f sa sc codes w' (HSUB.out.below hb') hsl hs HSZ.out (by rw[HWF.out];omega)
      rw[HWF.out]at h9
      exact h9)
     obtain⟨oa,oc,rfl,hso⟩:=C9 hown
     have HSO:=J hso;clear hso
     go_wp2_with (first
      |(go_at_call 138;((with_reducible refine (r20_joined_c acc WF oa va oc vc _ (HSO.out.below hb2) HSV.out (by omega)).mono ?_);rintro e w3 ⟨v3,rfl,hown3,hb3⟩;have s3:=hb3.size))
      |(go_at_call 140;((with_reducible refine (CW.out _ (Ab _ _)).mono ?_);rintro e w2 ⟨v2,rfl,hown2,hb2⟩;obtain⟨va,vc,rfl,hsv⟩:=C9 hown2;have HSV:=J hsv;clear hsv hown2;have s2:=hb2.size)))
     go_roundw
     case rel=>exact⟨k+1,hlt,by go_num,by rw[HPT.out];exact Cr hown3 (by omega),A8 (A8 hb hb2) hb3,A8 (A8 hbW hb2) hb3⟩
     case measure=>simp[Ad];omega
    ·have hti:¬ EL d f=true:=by rw[hbp];simpa using hxd
     have hq2:(x == d)=false:=by simpa using hxd
     rw[hq2]at hgu
     clear hbp hq2 hxd
     rw[if_neg hti,AD]at hpt
     have HPT:=J hpt
     clear hpt hti hf
     go_wp2
     go_roundw
     case rel=>exact⟨k+1,hlt,by go_num,by rw[HPT.out];exact hown,hb,hbW⟩
     case measure=>simp[Ad];omega
  ·obtain rfl:k=fs.length:=by omega
   rw[Ap]at hown
   go_wp2
   go_ret
   exact⟨_,rfl,hown,hb⟩
namespace Ix
theorem drop_at {s:ByteArray}{k:Nat} (h:k<s.size):s.data.toList.drop k=s[k]'h::s.data.toList.drop (k+1):=by
 have h':k<s.data.toList.length:=by rw[← Ak];exact h
 rw[BG h']
 rfl
theorem kn {c:UInt8}{n:Nat} (_hn:n<256) (h:c≠UInt8.ofNat n):(c.toNat:Int)≠(n:Int):=fun e=>h (by
 have e2:c.toNat=n:=by omega
 rw[← e2,UInt8.ofNat_toNat])
theorem ext_eq (s:ByteArray) (a b:Nat):(⟨((s.data.toList.drop a).take (b - a)).toArray⟩:ByteArray)=s.extract a b:=by
 apply ByteArray.ext
 apply Array.toList_inj.1
 rw[Lib.extract_data]
theorem app_one {s:ByteArray}{k:Nat}{c:UInt8}{out:By} (h:(⟨[c].toArray⟩:ByteArray)=s.extract k (k+1)):AW (⟨out.toArray⟩++s.extract k (k+1))=AW ⟨(out++[c]).toArray⟩:=by
 rw[← h]
 congr 1
theorem app_byte {c:UInt8}{out:By}:AW ((⟨out.toArray⟩:ByteArray)++⟨[c].toArray⟩)=AW ⟨(out++[c]).toArray⟩:=by
 congr 1
end Ix
theorem byte_string (w:A9) (c:UInt8) (v:Int) (hv:v=(c.toNat:Int)):(convert 174 9 (.slice (A2 ⟨w.heap.size,0,A4⟩) 1 1)).run A3 (w.alloc (.cells #[.int .u8 v] 5))=.ok (.string ⟨[c].toArray⟩) (w.alloc (.cells #[.int .u8 v] 5)) :=
 run_convert_bytes_back (P:=A3) (w.alloc (.cells #[.int .u8 v] 5)) 174 9 5 ⟨w.heap.size,0,A4⟩ 1 [c] Tryz.underlying174 Tryz.underlying5 Tryz.underlying9 (fun j hj=>by
  have:j=0:=by simp at hj;omega
  subst this
  exact Tx.cell_one_at _ _ rfl _ _ 0 _ (by rw[hv];rfl))
theorem r20_plain_c (s:ByteArray) (w:A9) (hs:s.size≤50000000) :
  Ac A3 143 #[.string s] w fun e w'=>e=.returned (.string ⟨(Cm s.data.toList).toArray⟩)∧A6 w.heap.size w w':=by
 go_enter Tryz.func143,Tryz.ntmps143
 go_wp2
 go_loopw [3,4] (fun v i wr=>∃ (k:Nat) (out:List UInt8),k≤s.size∧v=.string ⟨out.toArray⟩∧i=.int .i64 k∧Hid (out++Cm (s.data.toList.drop k)=Cm s.data.toList)∧out.length≤k∧A6 w.heap.size w wr) (fun _ i _=>s.size - (Ad i).toNat)
 case atStart=>exact⟨0,[],Ae _,rfl,rfl,J (by rw[List.drop_zero];rfl),Ae _,Ab _ _⟩
 case round =>
  obtain⟨k,out,hk,rfl,rfl,hT,hol,hb⟩:=hrel
  have hbs:=hb.size
  by_cases hlt:k<s.size
  ·have hdr:=Ix.drop_at hlt
   obtain⟨c,hc⟩:∃ c,s[k]'hlt=c:=⟨_,rfl⟩
   rw[hc]at hdr
   have hcc:∀ h,s[k]'h=c:=fun _=>hc
   clear hc
   have hP:=Ix.plainB_cons c (s.data.toList.drop (k+1))
   have HT:=J hT.out
   rw[hdr]at HT
   have HT2:=J HT.out;clear HT hT
   have hx1:=Ix.ext_eq s k (k+1)
   rw[hdr,Nat.add_sub_cancel_left,List.take_succ_cons,Bt]at hx1
   have HX1:=J hx1;clear hx1 hdr
   by_cases c45:c=45
   ·subst c45
    rw[if_pos (.inl rfl)]at hP
    have HN:Hid (out++Cm (s.data.toList.drop (k+1))=Cm s.data.toList):=J (by rw[← HT2.out,hP])
    clear hP
    go_wp2
    go_roundw
    case rel=>exact⟨k+1,out,hlt,rfl,by go_num,HN,by omega,hb⟩
    case measure=>simp[Ad];omega
   by_cases c32:c=32
   ·subst c32
    rw[if_pos (.inr rfl)]at hP
    have HN:Hid (out++Cm (s.data.toList.drop (k+1))=Cm s.data.toList):=J (by rw[← HT2.out,hP])
    clear hP
    go_wp2
    go_roundw
    case rel=>exact⟨k+1,out,hlt,rfl,by go_num,HN,by omega,hb⟩
    case measure=>simp[Ad];omega
   have n45:((c.toNat:Int) == 45)=false:=beq_eq_false_iff_ne.2 (Ix.kn (n:=45) (by decide) c45)
   have n32:((c.toNat:Int) == 32)=false:=beq_eq_false_iff_ne.2 (Ix.kn (n:=32) (by decide) c32)
   rw[if_neg (by rintro (h | h);exact c45 h;exact c32 h)]at hP
   by_cases c194:c=194
   ·subst c194
    by_cases hlt2:k+1<s.size
    ·have hdr2:=Ix.drop_at hlt2
     obtain⟨d,hd⟩:∃ d,s[k+1]'hlt2=d:=⟨_,rfl⟩
     rw[hd]at hdr2
     have hdd:∀ h,s[k+1]'h=d:=fun _=>hd
     clear hd
     have hw:=IntWalk.i64_in ((k:Int)+1) ⟨by omega,by omega⟩
     have hlt3:(k:Int)+1<(s.size:Int):=by omega
     by_cases d160:d=160
     ·subst d160
      rw[hdr2,if_pos ⟨rfl,rfl⟩]at hP
      have HN:Hid (out++Cm (s.data.toList.drop (k+2))=Cm s.data.toList):=J (by rw[← HT2.out,hdr2,hP];rfl)
      clear hP hdr2
      go_wp2
      go_roundw
      case rel=>exact⟨k+2,out,hlt2,rfl,by go_num,HN,by omega,hb⟩
      case measure=>simp[Ad];omega
     ·have n160:((d.toNat:Int) == 160)=false:=beq_eq_false_iff_ne.2 (Ix.kn (n:=160) (by decide) d160)
      rw[if_neg (by rintro⟨_,h⟩;rw[hdr2]at h;exact d160 (by simpa using h)),if_neg (by decide)]at hP
      have HN:Hid ((out++[194])++Cm (s.data.toList.drop (k+1))=Cm s.data.toList):=J (by rw[← HT2.out,hP,B0];rfl)
      clear hP hdr2
      go_wp2
      go_roundw
      case rel=>exact⟨k+1,out++[194],hlt,Ix.app_one HX1.out,by go_num,HN,by rw[Af];simp;omega,hb⟩
      case measure=>simp[Ad];omega
    ·rw[if_neg (by rintro⟨_,h⟩;rw[AB (by rw[← Ak];omega)]at h;cases h),if_neg (by decide)]at hP
     have HN:Hid ((out++[194])++Cm (s.data.toList.drop (k+1))=Cm s.data.toList):=J (by rw[← HT2.out,hP,B0];rfl)
     have hw:=IntWalk.i64_in ((k:Int)+1) ⟨by omega,by omega⟩
     have hlt3:¬ (k:Int)+1<(s.size:Int):=by omega
     clear hP
     go_wp2
     go_roundw
     case rel=>exact⟨k+1,out++[194],hlt,Ix.app_one HX1.out,by go_num,HN,by rw[Af];simp;omega,hb⟩
     case measure=>simp[Ad];omega
   ·have n194:((c.toNat:Int) == 194)=false:=beq_eq_false_iff_ne.2 (Ix.kn (n:=194) (by decide) c194)
    rw[if_neg (by rintro⟨h,_⟩;exact c194 h)]at hP
    by_cases hup:65≤c.toNat∧c.toNat≤90
    ·rw[if_pos hup]at hP
     have HN:Hid ((out++[c+32])++Cm (s.data.toList.drop (k+1))=Cm s.data.toList):=J (by rw[← HT2.out,hP,B0];rfl)
     have hcv:=byte_string wr (c+32) ((c.toNat:Int)+32) (by rw[UInt8.toNat_add];simp;omega)
     have hu1:(65:Int)≤(c.toNat:Int):=by omega
     have hu2:(c.toNat:Int)≤90:=by omega
     clear hP
     go_wp2
     go_roundw
     case rel=>exact⟨k+1,out++[c+32],hlt,Ix.app_byte,by go_num,HN,by rw[Af];simp;omega,hb.alloc hbs _⟩
     case measure=>simp[Ad];omega
    ·rw[if_neg hup]at hP
     have HN:Hid ((out++[c])++Cm (s.data.toList.drop (k+1))=Cm s.data.toList):=J (by rw[← HT2.out,hP,B0];rfl)
     clear hP
     by_cases h65:65≤c.toNat
     ·have hu1:(65:Int)≤(c.toNat:Int):=by omega
      have hu2:¬ (c.toNat:Int)≤90:=by omega
      go_wp2
      go_roundw
      case rel=>exact⟨k+1,out++[c],hlt,Ix.app_one HX1.out,by go_num,HN,by rw[Af];simp;omega,hb⟩
      case measure=>simp[Ad];omega
     ·have hu1:¬ (65:Int)≤(c.toNat:Int):=by omega
      go_wp2
      go_roundw
      case rel=>exact⟨k+1,out++[c],hlt,Ix.app_one HX1.out,by go_num,HN,by rw[Af];simp;omega,hb⟩
      case measure=>simp[Ad];omega
  ·obtain rfl:k=s.size:=by omega
   have hd:s.data.toList.drop s.size=[]:=AB (by rw[← Ak];exact Nat.le_refl _)
   have h8:=hT.out
   rw[hd,Ix.plainB_nil,AD]at h8
   go_wp2
   go_ret
   exact⟨Tx.rets (by rw[h8]),hb⟩
theorem r20_Terms_3 (fs:List BS) (a:Option Ao) (c:Nat) (id ver kind:Int) (lang:ByteArray) (w:A9) (h:AV w a c fs) (hM:EI fs) :
  Ac A3 70 #[.agg #[.int .i64 id,.int .i64 ver,.int .i64 kind,.string lang,.slice a fs.length c],.int .i64 3] w fun e w'=>∃ v,e=.returned v∧AX w' w.heap.size v (Ix.term fs 3)∧A6 w.heap.size w w':=by
 obtain⟨W,hW⟩:∃ W,w.alloc (.cells #[.int .i64 id,.int .i64 ver,.int .i64 kind,.string lang,.slice a fs.length c] 51)=W:=⟨_,rfl⟩
 have hB:A6 w.heap.size w W:=by rw[← hW];exact Aa _ _
 have KR:Hid (W.heap[w.heap.size]?=A2 (.cells #[.int .i64 id,.int .i64 ver,.int .i64 kind,.string lang,.slice a fs.length c] 51)):=J (by rw[← hW];exact Ar w _)
 have c0:W.cell? ⟨w.heap.size,0,A4⟩=A2 (.int .i64 id):=by rw[← hW];simp
 have c1:W.cell? ⟨w.heap.size,1,A4⟩=A2 (.int .i64 ver):=by rw[← hW];simp
 have c2:W.cell? ⟨w.heap.size,2,A4⟩=A2 (.int .i64 kind):=by rw[← hW];simp
 have c3:W.cell? ⟨w.heap.size,3,A4⟩=A2 (.string lang):=by rw[← hW];simp
 have c4:W.cell? ⟨w.heap.size,4,A4⟩=A2 (.slice a fs.length c):=by rw[← hW];simp
 have HS:=J (h.below hB);clear h
 have hbB:=hB.size
 have CB:Hid (Ac A3 141 #[.agg #[.int .i64 id,.int .i64 ver,.int .i64 kind,.string lang,.slice a fs.length c],.int .u8 54,.string ⟨#[97,120,121,122]⟩] W fun e w'=>∃ v,e=.returned v∧AX w' W.heap.size v (Cz (EL 54) [97,120,121,122] fs)∧A6 W.heap.size W w'):=J (r20_begun_c fs a c id ver kind lang 54 ⟨#[97,120,121,122]⟩ W HS.out hM (by decide))
 go_enter GV,Gl
 go_wp2_with (go_at_call 141;((with_reducible refine CB.out.mono ?_);rintro e w1 ⟨v,rfl,hown,hb1⟩))
 go_ret
 exact⟨_,rfl,Cr hown hbB,A8 hB hb1⟩
theorem r20_Terms_1 (fs:List BS) (a:Option Ao) (c:Nat) (id ver kind:Int) (lang:ByteArray) (w:A9) (h:AV w a c fs) (hM:EI fs) :
  Ac A3 70 #[.agg #[.int .i64 id,.int .i64 ver,.int .i64 kind,.string lang,.slice a fs.length c],.int .i64 1] w fun e w'=>∃ v,e=.returned v∧AX w' w.heap.size v (Ix.term fs 1)∧A6 w.heap.size w w':=by
 obtain⟨W,hW⟩:∃ W,w.alloc (.cells #[.int .i64 id,.int .i64 ver,.int .i64 kind,.string lang,.slice a fs.length c] 51)=W:=⟨_,rfl⟩
 have hB:A6 w.heap.size w W:=by rw[← hW];exact Aa _ _
 have KR:Hid (W.heap[w.heap.size]?=A2 (.cells #[.int .i64 id,.int .i64 ver,.int .i64 kind,.string lang,.slice a fs.length c] 51)):=J (by rw[← hW];exact Ar w _)
 have c0:W.cell? ⟨w.heap.size,0,A4⟩=A2 (.int .i64 id):=by rw[← hW];simp
 have c1:W.cell? ⟨w.heap.size,1,A4⟩=A2 (.int .i64 ver):=by rw[← hW];simp
 have c2:W.cell? ⟨w.heap.size,2,A4⟩=A2 (.int .i64 kind):=by rw[← hW];simp
 have c3:W.cell? ⟨w.heap.size,3,A4⟩=A2 (.string lang):=by rw[← hW];simp
 have c4:W.cell? ⟨w.heap.size,4,A4⟩=A2 (.slice a fs.length c):=by rw[← hW];simp
 have HS:=J (h.below hB);clear h
 have hbB:=hB.size
 have CT:Hid (∀ w',A6 W.heap.size W w'→∀ (tag codes:ByteArray),codes.size≤1000→Ac A3 139 #[.agg #[.int .i64 id,.int .i64 ver,.int .i64 kind,.string lang,.slice a fs.length c],.string tag,.string codes] w' fun e w''=>∃ v,e=.returned v∧AX w'' w'.heap.size v (Cz (AQ tag.data.toList) codes.data.toList fs)∧A6 w'.heap.size w' w''):=J (fun w' hb tag codes hc=>r20_tagged_c fs a c id ver kind lang tag codes w' (HS.out.below hb) hM hc)
 have L1:=Ix.pick_len (p:=AQ [50,52,53]) (codes:=[97,98,110,112]) hM
 have L2:=Ix.pick_len (p:=AQ [50,52,54]) (codes:=[97,98]) hM
 go_enter GV,Gl
 go_wp2
 go_region_with (first
  |(go_at_call 138;((with_reducible refine (r20_joined_c (Cz (AQ [50,52,53]) [97,98,110,112] fs) (Cz (AQ [50,52,54]) [97,98] fs) a1 a2 d1 d2 _ (HX.out.below hb2) HY.out (by omega)).mono ?_);rintro e w3 ⟨v3,rfl,hown3,hb3⟩))
  |(go_at_call 139;((with_reducible refine (CT.out _ hb1 ⟨#[50,52,54]⟩ ⟨#[97,98]⟩ (by decide)).mono ?_);rintro e w2 ⟨v2,rfl,hown2,hb2⟩;obtain⟨a2,d2,rfl,hs2⟩:=C9 hown2;have HY:=J hs2;clear hs2 hown2;have e0:=A0 hb2 e0;have k2:=A8 hb1 hb2))
  |(go_at_call 139;((with_reducible refine (CT.out _ (Ab _ _).drew ⟨#[50,52,53]⟩ ⟨#[97,98,110,112]⟩ (by decide)).mono ?_);rintro e w1 ⟨v1,rfl,hown1,hb1'⟩;have hb1:A6 W.heap.size W w1:=((Ab _ _).drew).trans hb1';obtain⟨a1,d1,rfl,hs1⟩:=C9 hown1;have HX:=J hs1;clear hs1 hown1;have e0:=A0 hb1 c0;have e1:=A0 hb1 c1;have e2:=A0 hb1 c2;have e3:=A0 hb1 c3;have e4:=A0 hb1 c4)))
 all_goals
  go_wp2
  go_ret
  exact⟨_,rfl,Cr hown3 (by have:=(A8 (A8 hB hb1) hb2).size;omega),A8 (A8 (A8 hB hb1) hb2) hb3⟩
namespace Ix
open Rc
theorem places_head {t:List By}{i:Nat}{x:By} (h:t[i]?=A2 x):∃ n r,places t x=n::r∧((n=(i:Int))↔x ∉ t.take i):=by
 have hlt:=(Ai.1 h).1
 have hs:places t x=placesF 0 (t.take i) x++placesF i (t.drop i) x:=by
  have gen:∀ (a b:List By) (k:Nat),placesF k (a++b) x=placesF k a x++placesF (k+a.length) b x:=by
   intro a
   induction a with
   | nil=>intro b k;simp[placesF]
   | cons y a ih =>
    intro b k
    rw[List.cons_append,placesF,placesF,ih,AO,show k+1+a.length=k+(a.length+1) by omega]
    split <;> simp
  unfold places
  conv=>lhs;rw[← BJ i t]
  rw[gen,Az,Nat.min_eq_left (by omega),Nat.zero_add]
 have hd:placesF i (t.drop i) x=(i:Int)::placesF (i+1) (t.drop (i+1)) x:=by
  rw[BG hlt,placesF]
  rw[A7 hlt]at h
  injection h with h
  rw[if_pos h]
 by_cases hm:x∈t.take i
 ·obtain⟨j,hj⟩:=List.getElem?_of_mem hm
  have hjl:=(Ai.1 hj).1
  rw[Az]at hjl
  have hp:((0+j:Nat):Int)∈placesF 0 (t.take i) x:=placesF_mem.2 ⟨j,rfl,hj⟩
  cases hc:placesF 0 (t.take i) x with
  | nil=>rw[hc]at hp;cases hp
  | cons n r =>
   refine⟨n,r++placesF i (t.drop i) x,by rw[hs,hc];rfl,fun e=>?_,fun h9=>absurd hm h9⟩
   have hn:n∈placesF 0 (t.take i) x:=by rw[hc];exact AY ..
   obtain⟨q,e1,e2⟩:=placesF_mem.1 hn
   have hql:=(Ai.1 e2).1
   rw[Az]at hql
   omega
 ·refine⟨(i:Int),placesF (i+1) (t.drop (i+1)) x,?_,fun _=>hm,fun _=>rfl⟩
  rw[hs,placesF_nil hm,hd,List.nil_append]
open Rc
def insT:List PT→PT→List PT
 | [],x=>[x]
 | y::l,x=>if ltK x.1 y.1=true then x::y::l else y::insT l x
theorem insT_map:∀ (T:List PT) (t:PT),(insT T t).map (·.1)=ins (T.map (·.1)) t.1
 | [],t=>rfl
 | y::T,t=>by
  unfold insT
  rw[Cf,ins]
  split
  ·rfl
  ·rw[Cf,insT_map T t]
theorem insT_len:∀ (T:List PT) (t:PT),(insT T t).length=T.length+1
 | [],_=>rfl
 | y::T,t=>by
  unfold insT
  split
  ·rfl
  ·rw[AO,insT_len T t,AO]
theorem insT_mem:∀ {T:List PT}{t x:PT},x∈insT T t→x=t∨x∈T
 | [],t,x,h=>.inl (by simpa [insT] using h)
 | y::T,t,x,h=>by
  unfold insT at h
  split at h
  ·rcases B9.1 h with h | h
   ·exact .inl h
   ·exact .inr h
  ·rcases B9.1 h with h | h
   ·exact .inr (h▸AY ..)
   ·rcases insT_mem h with h | h
    ·exact .inl h
    ·exact .inr (List.mem_cons_of_mem _ h)
end Ix
theorem r20_before_c (p q:Ix.Post) (pa qa:Option Ao) (pc qc:Nat) (w:A9) :
  Ac A3 79 #[.agg #[.int .i64 p.fld,.string ⟨p.word.toArray⟩,.int .i64 p.id,.slice pa p.at_.length pc],.agg #[.int .i64 q.fld,.string ⟨q.word.toArray⟩,.int .i64 q.id,.slice qa q.at_.length qc]] w fun e w'=>e=.returned (.bool (Hm p q))∧A6 w.heap.size w w':=by
 obtain⟨W,hW⟩:∃ W,(w.alloc (.cells #[.int .i64 p.fld,.string ⟨p.word.toArray⟩,.int .i64 p.id,.slice pa p.at_.length pc] 100)).alloc (.cells #[.int .i64 q.fld,.string ⟨q.word.toArray⟩,.int .i64 q.id,.slice qa q.at_.length qc] 100)=W:=⟨_,rfl⟩
 have hB:A6 w.heap.size w W:=by rw[← hW];exact (Aa _ _).alloc (by simp) _
 have c0:W.cell? ⟨w.heap.size,0,A4⟩=A2 (.int .i64 p.fld):=by rw[← hW];simp
 have c1:W.cell? ⟨w.heap.size,1,A4⟩=A2 (.string ⟨p.word.toArray⟩):=by rw[← hW];simp
 have c2:W.cell? ⟨w.heap.size,2,A4⟩=A2 (.int .i64 p.id):=by rw[← hW];simp
 have d0:W.cell? ⟨w.heap.size+1,0,A4⟩=A2 (.int .i64 q.fld):=by rw[← hW];simp
 have d1:W.cell? ⟨w.heap.size+1,1,A4⟩=A2 (.string ⟨q.word.toArray⟩):=by rw[← hW];simp
 have d2:W.cell? ⟨w.heap.size+1,2,A4⟩=A2 (.int .i64 q.id):=by rw[← hW];simp
 by_cases e0:p.fld=q.fld
 ·have t0:(p.fld != q.fld)=false:=by simpa using e0
  by_cases e1:p.word=q.word
  ·have t1:(p.word == q.word)=true:=by simpa using e1
   have hr:Hm p q=decide (p.id<q.id):=by unfold Hm Cp.ltI Cp.ltB;rw[e0,e1];simp[List.lt_irrefl]
   have HR:=J hr
   clear hr e0 e1
   go_enter MR,LQ
   go_wp2
   go_ret
   exact⟨by rw[HR.out];rfl,hB⟩
  ·have t1:(p.word == q.word)=false:=by simpa using e1
   have hbl:Op.bytesLess p.word q.word=decide (p.word<q.word):=Go.Proofs.bytesLess_eq _ _
   have hr:Hm p q=Op.bytesLess p.word q.word:=by rw[hbl];unfold Hm Cp.ltI Cp.ltB;rw[e0];simp[e1]
   have HR:=J hr
   clear hr hbl e0 e1
   go_enter MR,LQ
   go_wp2
   go_ret
   exact⟨by rw[HR.out];rfl,hB⟩
 ·have t0:(p.fld != q.fld)=true:=by simpa using e0
  have hr:Hm p q=decide (p.fld<q.fld):=by unfold Hm Cp.ltI;simp[e0]
  have HR:=J hr
  clear hr e0
  go_enter MR,LQ
  go_wp2
  go_ret
  exact⟨by rw[HR.out];rfl,hB⟩
theorem r20_put_c (T:List Ix.PT) (t:Ix.PT) (a:Option Ao) (c:Nat) (w:A9) (h:Br.FA Il 4 w a c T) (hn:T.length≤1000000000000) :
  Ac A3 145 #[.slice a T.length c,.agg #[.int .i64 t.1.fld,.string ⟨t.1.word.toArray⟩,.int .i64 t.1.id,.slice t.2.1 t.1.at_.length t.2.2]] w fun e w'=>∃ v,e=.returned v∧Ix.OwnP w' w.heap.size v (Ix.insT T t)∧A6 w.heap.size w w':=by
 obtain⟨i0,hi0,hz0,hz1,hz2⟩:=BR info_post
 have HI:=J hi0;clear hi0
 have hcap:=h.cap
 obtain⟨W,hW⟩:∃ W,w.alloc (.cells #[.int .i64 t.1.fld,.string ⟨t.1.word.toArray⟩,.int .i64 t.1.id,.slice t.2.1 t.1.at_.length t.2.2] 100)=W:=⟨_,rfl⟩
 have hB:A6 w.heap.size w W:=by rw[← hW];exact Aa _ _
 have c0:W.cell? ⟨w.heap.size,0,A4⟩=A2 (.int .i64 t.1.fld):=by rw[← hW];simp
 have c1:W.cell? ⟨w.heap.size,1,A4⟩=A2 (.string ⟨t.1.word.toArray⟩):=by rw[← hW];simp
 have c2:W.cell? ⟨w.heap.size,2,A4⟩=A2 (.int .i64 t.1.id):=by rw[← hW];simp
 have c3:W.cell? ⟨w.heap.size,3,A4⟩=A2 (.slice t.2.1 t.1.at_.length t.2.2):=by rw[← hW];simp
 have HS:=J (h.below hB);clear h
 have hbB:=hB.size
 go_enter Tryz.func145,Tryz.ntmps145
 go_wp2
 clear hW
 go_loopw [5,6,7] (fun v d i wr=>∃ (k:Nat) (L:List Ix.PT) (d0:Bool),k≤T.length∧i=.int .i64 k∧d=.bool d0∧Hid (L++(if d0=true then T.drop k else Ix.insT (T.drop k) t)=Ix.insT T t)∧L.length≤2*k∧Ix.OwnP wr W.heap.size v L∧A6 W.heap.size W wr) (fun _ _ i _=>T.length - (Ad i).toNat)
 case atStart=>exact⟨0,[],false,Ae _,rfl,rfl,J (by simp),by simp,AH _ _ _ _,Ab _ _⟩
 case round =>
  obtain⟨k,L,d,hk,rfl,rfl,hE,hL,hown,hb⟩:=hrel
  have hbs:=hb.size
  replace c0:=A0 hb c0
  replace c1:=A0 hb c1
  replace c2:=A0 hb c2
  replace c3:=A0 hb c3
  have HK:Hid (L.length≤2000000000001):=J (by omega)
  by_cases hlt:k<T.length
  ·obtain⟨y,hy⟩:∃ y,T[k]?=A2 y:=⟨_,A7 hlt⟩
   have hdr:=Ix.drop_cons hy
   obtain⟨b,o,rfl,hbl,hcs⟩:=HS.out.get hy
   have f0:=hcs 0 _ rfl
   have f1:=hcs 1 _ rfl
   have f2:=hcs 2 _ rfl
   have f3:=hcs 3 _ rfl
   rw[Nat.add_zero]at f0
   have e0:=A0 hb f0
   have e1:=A0 hb f1
   have e2:=A0 hb f2
   have e3:=A0 hb f3
   clear hcs
   cases d with
   | true =>
    have HN:Hid ((L++[y])++(if true=true then T.drop (k+1) else Ix.insT (T.drop (k+1)) t)=Ix.insT T t):=J (by
     rw[← hE.out,if_pos rfl,if_pos rfl,hdr,B0];rfl)
    clear hdr hy hE
    go_wp2
    go_quiet (fail)
    have hbq:=Tx.below_drewN (Ab wr.heap.size wr) nq
    have hown3:=own_below hown hbq
    have hb3:=A8 hb hbq
    have hb3s:=hb3.size
    have g0:=A0 hb3 f0
    have g1:=A0 hb3 f1
    have g2:=A0 hb3 f2
    have g3:=A0 hb3 f3
    clear hbq
    generalize wr.drewN nq=w3 at *
    go_wp2_with (at_builtin;go_must (refine wpList_append_sl rfl _ _ 22 rfl W.heap.size 100 i0 _ 4 56 G0 HI.out hz0 hz1 hz2 rfl (by decide) _ (L.length) _ rfl (hown3.alloc _) (A2 ⟨_,0,A4⟩) 1 1 (Il y) rfl rfl (fun h9=>by cases h9) (fun ad had=>by cases had;exact AR _ _ (by first | rfl | simp) #[.int .i64 y.1.fld,.string ⟨y.1.word.toArray⟩,.int .i64 y.1.id,.slice y.2.1 y.1.at_.length y.2.2] _) (Nh y) (by unfold Au;have:=HK.out;omega) (by have:=HK.out;omega) (by simp;omega) ?_);intro v7 w7 hown7 hg7 hnil7)
    go_roundw
    case rel=>exact⟨k+1,L++[y],true,hlt,by go_num,rfl,HN,by rw[Af];simp;omega,MJ hown7,(hb3.alloc hb3s _).grown hg7 (by simp;omega) (fun j hj=>(hown3.lt j hj).1)⟩
    case measure=>simp[Ad];omega
   | false =>
    cases hq:Hm t.1 y.1 with
    | true =>
     have HN:Hid (((L++[t])++[y])++(if true=true then T.drop (k+1) else Ix.insT (T.drop (k+1)) t)=Ix.insT T t):=J (by
      rw[← hE.out,if_pos rfl,if_neg (by decide),hdr,Ix.insT,if_pos hq,B0,B0];rfl)
     have HQ:=J hq
     clear hdr hy hE hq
     have CB:Hid (∀ w',Ac A3 79 #[.agg #[.int .i64 t.1.fld,.string ⟨t.1.word.toArray⟩,.int .i64 t.1.id,.slice t.2.1 t.1.at_.length t.2.2],.agg #[.int .i64 y.1.fld,.string ⟨y.1.word.toArray⟩,.int .i64 y.1.id,.slice y.2.1 y.1.at_.length y.2.2]] w' fun e w''=>e=.returned (.bool true)∧A6 w'.heap.size w' w''):=J (fun w'=>by
      have h9:=r20_before_c t.1 y.1 t.2.1 y.2.1 t.2.2 y.2.2 w'
      rw[HQ.out]at h9
      exact h9)
     go_wp2
     go_still_tail 8,(by kernel_rfl)
     change wpList _ _ _ _ _ wr.drew
     have hbq:=(Ab wr.heap.size wr).drew
     generalize wr.drew=w2 at hbq ⊢
     have HK2:Hid ((L++[t]).length≤2000000000002):=J (by rw[Af];simp;have:=HK.out;omega)
     go_wp2_with (first
      |(at_builtin;refine wpList_append_sl rfl _ _ 22 rfl W.heap.size 100 i0 _ 4 56 G0 HI.out hz0 hz1 hz2 rfl (by decide) _ ((L++[t]).length) _ rfl ((MJ hown7).alloc _) (A2 ⟨_,0,A4⟩) 1 1 (Il y) rfl rfl (fun h9=>by cases h9) (fun ad had=>by cases had;exact AR _ _ (by first | rfl | simp) #[.int .i64 y.1.fld,.string ⟨y.1.word.toArray⟩,.int .i64 y.1.id,.slice y.2.1 y.1.at_.length y.2.2] _) (Nh y) (by unfold Au;have:=HK2.out;omega) (by have:=HK2.out;omega) (by simp;omega) ?_;intro v8 w8 hown8 hg8 hnil8;have hb8:A6 W.heap.size W w8:=(hb7.alloc hb7.size _).grown hg8 (by simp;omega) (fun j hj=>(hown7.lt j hj).1))
      |(at_builtin;go_must (refine wpList_append_sl rfl _ _ 22 rfl W.heap.size 100 i0 _ 4 56 G0 HI.out hz0 hz1 hz2 rfl (by decide) _ (L.length) _ rfl (hown3.alloc _) (A2 ⟨_,0,A4⟩) 1 1 (Il t) rfl rfl (fun h9=>by cases h9) (fun ad had=>by cases had;exact AR _ _ (by first | rfl | simp) #[.int .i64 t.1.fld,.string ⟨t.1.word.toArray⟩,.int .i64 t.1.id,.slice t.2.1 t.1.at_.length t.2.2] _) (Nh t) (by unfold Au;have:=HK.out;omega) (by have:=HK.out;omega) (by simp;omega) ?_);intro v7 w7 hown7 hg7 hnil7;have hb7:A6 W.heap.size W w7:=(hb3.alloc hb3s _).grown hg7 (by simp;omega) (fun j hj=>(hown3.lt j hj).1);have hb7s:=hb7.size;have p0:=A0 hb7 f0;have p1:=A0 hb7 f1;have p2:=A0 hb7 f2;have p3:=A0 hb7 f3)
      |(go_at_call 79;((with_reducible refine (CB.out _).mono ?_);rintro e w3 ⟨rfl,hb3x⟩;have hb3y:=A8 hbq hb3x;have hown3:=own_below hown hb3y;have hb3:=A8 hb hb3y;have hb3s:=hb3.size;have g0:=A0 hb3 f0;have g1:=A0 hb3 f1;have g2:=A0 hb3 f2;have g3:=A0 hb3 f3;have k0:=A0 hb3y c0;have k1:=A0 hb3y c1;have k2:=A0 hb3y c2;have k3:=A0 hb3y c3)))
     go_roundw
     case rel=>exact⟨k+1,(L++[t])++[y],true,hlt,by go_num,rfl,HN,by simp;omega,MJ hown8,hb8⟩
     case measure=>simp[Ad];omega
    | false =>
     have HN:Hid ((L++[y])++(if false=true then T.drop (k+1) else Ix.insT (T.drop (k+1)) t)=Ix.insT T t):=J (by
      rw[← hE.out,if_neg (by decide),if_neg (by decide),hdr,Ix.insT,if_neg (by rw[hq];decide),B0];rfl)
     have HQ:=J hq
     clear hdr hy hE hq
     have CB:Hid (∀ w',Ac A3 79 #[.agg #[.int .i64 t.1.fld,.string ⟨t.1.word.toArray⟩,.int .i64 t.1.id,.slice t.2.1 t.1.at_.length t.2.2],.agg #[.int .i64 y.1.fld,.string ⟨y.1.word.toArray⟩,.int .i64 y.1.id,.slice y.2.1 y.1.at_.length y.2.2]] w' fun e w''=>e=.returned (.bool false)∧A6 w'.heap.size w' w''):=J (fun w'=>by
      have h9:=r20_before_c t.1 y.1 t.2.1 y.2.1 t.2.2 y.2.2 w'
      rw[HQ.out]at h9
      exact h9)
     go_wp2
     go_still_tail 8,(by kernel_rfl)
     change wpList _ _ _ _ _ wr.drew
     have hbq:=(Ab wr.heap.size wr).drew
     generalize wr.drew=w2 at hbq ⊢
     go_wp2_with (first
      |(at_builtin;refine wpList_append_sl rfl _ _ 22 rfl W.heap.size 100 i0 _ 4 56 G0 HI.out hz0 hz1 hz2 rfl (by decide) _ (L.length) _ rfl (hown3.alloc _) (A2 ⟨_,0,A4⟩) 1 1 (Il y) rfl rfl (fun h9=>by cases h9) (fun ad had=>by cases had;exact AR _ _ (by first | rfl | simp) #[.int .i64 y.1.fld,.string ⟨y.1.word.toArray⟩,.int .i64 y.1.id,.slice y.2.1 y.1.at_.length y.2.2] _) (Nh y) (by unfold Au;have:=HK.out;omega) (by have:=HK.out;omega) (by simp;omega) ?_;intro v7 w7 hown7 hg7 hnil7)
      |(go_at_call 79;((with_reducible refine (CB.out _).mono ?_);rintro e w3 ⟨rfl,hb3x⟩;have hb3y:=A8 hbq hb3x;have hown3:=own_below hown hb3y;have hb3:=A8 hb hb3y;have hb3s:=hb3.size;have g0:=A0 hb3 f0;have g1:=A0 hb3 f1;have g2:=A0 hb3 f2;have g3:=A0 hb3 f3;have k0:=A0 hb3y c0;have k1:=A0 hb3y c1;have k2:=A0 hb3y c2;have k3:=A0 hb3y c3)))
     go_roundw
     case rel=>exact⟨k+1,L++[y],false,hlt,by go_num,rfl,HN,by rw[Af];simp;omega,MJ hown7,(hb3.alloc hb3s _).grown hg7 (by simp;omega) (fun j hj=>(hown3.lt j hj).1)⟩
     case measure=>simp[Ad];omega
  ·obtain rfl:k=T.length:=by omega
   cases d with
   | true =>
    have HN:=J hE.out
    rw[if_pos rfl,D6,AD]at HN
    go_wp2
    go_ret
    exact⟨_,rfl,by rw[← HN.out];exact Ix.row_lower hown hbB,A8 hB hb⟩
   | false =>
    have HN:=J hE.out
    rw[if_neg (by decide),D6,Ix.insT]at HN
    go_wp2_with (at_builtin;go_must (refine wpList_append_sl rfl _ _ 22 rfl W.heap.size 100 i0 _ 4 56 G0 HI.out hz0 hz1 hz2 rfl (by decide) _ (L.length) _ rfl (hown.alloc _) (A2 ⟨_,0,A4⟩) 1 1 (Il t) rfl rfl (fun h9=>by cases h9) (fun ad had=>by cases had;exact AR _ _ (by first | rfl | simp) #[.int .i64 t.1.fld,.string ⟨t.1.word.toArray⟩,.int .i64 t.1.id,.slice t.2.1 t.1.at_.length t.2.2] _) (Nh t) (by unfold Au;have:=HK.out;omega) (by have:=HK.out;omega) (by simp;omega) ?_);intro v7 w7 hown7 hg7 hnil7)
    go_ret
    exact⟨_,rfl,by rw[← HN.out];exact Ix.row_lower (MJ hown7) hbB,A8 hB ((hb.alloc hbs _).grown hg7 (by simp;omega) (fun j hj=>(hown.lt j hj).1))⟩
end Go.Proofs.YtlakomilichhnaaGreatDoor
