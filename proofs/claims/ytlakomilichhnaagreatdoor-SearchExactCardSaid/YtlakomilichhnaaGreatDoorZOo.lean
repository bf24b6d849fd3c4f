/- Texts of this seat's, what the claim needs of them. -/
import Derived.Test.YtlakomilichhnaaGreatDoorZOj
import Derived.Test.YtlakomilichhnaaGreatDoorZOp
import Derived.Test.YtlakomilichhnaaGreatDoorZShelfB
import Derived.Deep.DeepCutAuto
import Derived.Sort.Walk0
import Derived.Deep.RegionLaw
import Derived.Sort.OwnSorted
import Derived.Shelf.SlSortCmp.NoneTotal
import Derived.Maps.OwnSet
import Derived.StringKeys
import Derived.Maps.RangeWalk
namespace Go.Proofs.YtlakomilichhnaaGreatDoor
set_option maxHeartbeats 6400000
set_option maxRecDepth 100000
open Go.RowKit
open Bool renaming eq_false_or_eq_true→CV,eq_iff_iff→Bp,false_or→GZ
open Br renaming cells_new_at→AR
open Go renaming Addr→Ao,Calls→Ac,DataW→C4,Oper→GW,Operand→JS,TypeId→Bd,Value→Ah,World→A9,cell_later→A0,info_parts→BR,maxLen→Au,wpList→EU,wpList_mapUpdate_own→NN
open Go.Sort renaming ahead→N9,alloc_eq_grow→Ns
open Ix renaming Mod→EI,OwnP→Mg,OwnT→AX,PT→Cx,Post→EP,begB→EL,encP→Il,firsts→Fo,numB→Ha,numC→Mm,own_lower→Cr,own_sla→C9,pick→Cz,pick_le→JZ,pick_len→Jl,pick_take→IF,plainB→Cm,postsTo→Fc,term→F7,terms→Cw,termsTo→K0
open Lib renaming compareInt→ER,hasPrefix→C7,hid→J,indexByte→DJ,toList_data→AA
open List renaming append_assoc→B0,append_nil→AD,eq_nil_of_length_eq_zero→Aw,ext_getElem?→Kr,filter_append→Dc,flatMap_append→BB,flatMap_cons→DR,getElem?_append_right→CS,getElem?_eq_getElem→A7,getElem?_eq_none→Ez,getElem?_eq_some_iff→Ai,getElem?_map→AE,getElem?_set_ne→Jj,getElem?_take_of_lt→ET,length→Cd,length_append→Af,length_cons→AO,length_map→At,length_set→K8,length_tail→Ej,length_take→Az,lt_irrefl→GA,map_append→AS,map_cons→Cf,map_map→Dp,map_nil→Ee,map_toArray→JH,mem_append→AZ,mem_cons→B9,mem_filter→B8,mem_flatMap→H5,mem_map→B3,mem_of_getElem?→Ag,mem_of_mem_take→Cb,mem_singleton→Bf,take_length→Ap,take_of_length_le→E1
open Lit renaming int→Is
open Maps renaming atKey_put_other→NO,keyOf_int_mk→My
open Nat renaming le_refl→An,le_trans→AK,lt_of_lt_of_le→B1,lt_or_ge→Cv,sub_self→IL,zero_le→Ae
open Option renaming none→A4,some→A2
open Proofs.Tryz renaming func211→KL,func62→MX,ntmps211→Li,ntmps62→LZ,prog→A3,underlying26→Bb,underlying3→AI,underlying35→Bl,underlying9→B6
open Rc renaming Fl→BS,FldA→AV,Gd→Ho,allV→BX,hasCode→Fq,tagIs→AQ
open RowKit renaming Below→A6,intOf→Ad
open RowKit.Below renaming heap_setCell→Ea,refl→Ab
open SLA renaming below→Bi
open Tx renaming blk→Aq,blk_later→Aj,newb→Aa,step→A8,sv→Gb,words→Bh
open Value renaming int→B7,oneCell'→AT,slice→Em,string→AW
open WideAt renaming IsKeyLit→Lx
open World renaming ownsRow_nil→AH,size_alloc→Bn
open _root_.Array renaming getElem?_eq_getElem→Ji,getElem?_eq_some_iff→AN,getElem?_modify→EE,getElem?_toList→DX,length_toList→JM
namespace Rc
end Rc
namespace Ix
open Rc
theorem words_take {codes:By}{subs:List (UInt8 × ByteArray)}{k:Nat}{x:UInt8 × ByteArray} (h:subs[k]?=A2 x):((allV (subs.take (k+1)) codes).flatMap fun s=>Bh s.data.toList)=((allV (subs.take k) codes).flatMap fun s=>Bh s.data.toList)++(if hasCode codes x.1=true then Bh x.2.data.toList else []):=by
 rw[allV_take codes h,BB]
 by_cases hp:hasCode codes x.1=true
 ·rw[if_pos hp,if_pos hp];simp
 ·rw[if_neg hp,if_neg hp];simp
theorem own_words {w:A9}{B:Nat}{v:Ah}{A ws:List By}{xs:List ByteArray} (h:w.ownsRow B 9 1 v (A.length+xs.length) (A.map Gb++xs.map AW)) (hx:xs.map (·.data.toList)=ws):OwnT w B v (A++ws):=by
 unfold OwnT
 rw[Af,AS,← hx,At,Dp]
 exact h
theorem words_le (codes:By) (subs:List (UInt8 × ByteArray)) (k:Nat):((allV (subs.take k) codes).flatMap fun s=>Bh s.data.toList).length≤((allV subs codes).flatMap fun s=>Bh s.data.toList).length:=by
 conv=>rhs;rw[← List.take_append_drop k subs]
 unfold allV
 rw[Dc,AS,BB,Af]
 omega
end Ix
theorem ix_pre6_c (tag:ByteArray) (w:A9):Ac A3 131 #[.string tag] w fun e w'=>e=.returned (.bool (C7 tag.data.toList [54]))∧A6 w.heap.size w w':=by
 have HP:=fun w'=>Tryz.strings_HasPrefix tag ⟨#[54]⟩ w'
 change ∀ w',Ac A3 65 #[.string tag,.string ⟨#[54]⟩] w' (fun e w''=>e=.returned (.bool (C7 tag.data.toList [54]))∧w''=w') at HP
 generalize C7 tag.data.toList [54]=r at HP ⊢
 have HC:=J HP
 clear HP
 go_enter Tryz.func131,Tryz.ntmps131
 go_wp2_with (go_at_call 65;((with_reducible refine (HC.out _).mono ?_);rintro e w1 ⟨rfl,rfl⟩))
 go_ret
 exact⟨rfl,Ab _ _⟩
theorem ix_pre5_c (tag:ByteArray) (w:A9):Ac A3 133 #[.string tag] w fun e w'=>e=.returned (.bool (C7 tag.data.toList [53]))∧A6 w.heap.size w w':=by
 have HP:=fun w'=>Tryz.strings_HasPrefix tag ⟨#[53]⟩ w'
 change ∀ w',Ac A3 65 #[.string tag,.string ⟨#[53]⟩] w' (fun e w''=>e=.returned (.bool (C7 tag.data.toList [53]))∧w''=w') at HP
 generalize C7 tag.data.toList [53]=r at HP ⊢
 have HC:=J HP
 clear HP
 go_enter Tryz.func133,Tryz.ntmps133
 go_wp2_with (go_at_call 65;((with_reducible refine (HC.out _).mono ?_);rintro e w1 ⟨rfl,rfl⟩))
 go_ret
 exact⟨rfl,Ab _ _⟩
structure Ix.Cap (w:A9) (bx:Nat) (L:List ByteArray):Prop where
 h:∃ (a:Option Ao) (c:Nat),w.cell? ⟨bx,0,A4⟩=A2 (.slice a L.length c)∧SLA w a c L
 lt:bx<w.heap.size
theorem Ix.Cap.below {w w':A9}{bx:Nat}{L:List ByteArray} (h:Ix.Cap w bx L) (hb:A6 w.heap.size w w'):Ix.Cap w' bx L:=by
 obtain⟨a,c,h1,h2⟩:=h.h
 exact⟨⟨a,c,A0 hb h1,h2.below hb⟩,B1 h.lt hb.size⟩
theorem ix_tag1_c (tag:ByteArray) (bx:Nat) (L:List ByteArray) (w:A9) (h:Ix.Cap w bx L) (hne:L≠[]):Ac A3 209 #[.string tag,.pointer (A2 ⟨bx,0,A4⟩)] w fun e w'=>e=.returned (.bool (Lib.containsS L tag))∧A6 w.heap.size w w':=by
 obtain⟨a,c,c0,hs⟩:=h.h
 obtain⟨b,o,rfl,hb,hat⟩:=hs.row hne
 have hcap:=hs.cap
 have hmax:=hs.max
 unfold Au at hmax
 have HP:=fun w' (hb':A6 w.heap.size w w')=>Tryz.slices_Contains_string b o L.length c L tag w' (An _) (by omega) (fun j hj=>A0 hb' (hat j _ (by rw[A7 hj,List.getD_eq_getElem?_getD,A7 hj];rfl)))
 rw[Ap]at HP
 generalize Lib.containsS L tag=r at HP ⊢
 have HC:=J HP
 clear HP
 go_enter Tryz.func209,Tryz.ntmps209
 go_wp2_with (go_at_call 61;((with_reducible refine (HC.out _ (Ab _ _)).mono ?_);rintro e w1 ⟨rfl,rfl⟩))
 go_ret
 exact⟨rfl,Ab _ _⟩
theorem ix_tags_c (L:List ByteArray) (a:Option Ao) (c:Nat) (w:A9) (h:SLA w a c L):Ac A3 130 #[.slice a L.length c] w fun e w'=>∃ bx,e=.returned (.func (.func 209) #[] #[.pointer (A2 ⟨bx,0,A4⟩)])∧Ix.Cap w' bx L∧A6 w.heap.size w w':=by
 have hmf:∀ (fn:Fn) (first cap:Array Ah) (w:A9),(Instr.makeFunc fn first cap).run A3 w=.ok (.func fn first cap) w:=fun _ _ _ _=>rfl
 go_enter Tryz.func130,Tryz.ntmps130
 go_wp2
 go_ret
 exact⟨w.heap.size,rfl,⟨⟨a,c,by simp,h.below (Aa _ _)⟩,by simp⟩,Aa _ _⟩
theorem picks_p6_c (fs:List BS) (a:Option Ao) (c:Nat) (id ver kind:Int) (lang:ByteArray)  (q:ByteArray→Bool) (p:BS→Bool) (hqp:∀ f,p f=q f.tag) (codes:ByteArray) (hc0:codes.data.toList≠[]) (w:A9) (hG:G w) (h:AV w a c fs) (hM:EI fs) (hV:∀ f∈fs,Ho f)
  (CQ:∀ w' tag,A6 w.heap.size w w'→Ac A3 131 #[.string tag] w' fun e w''=>e=.returned (.bool (q tag))∧A6 w'.heap.size w' w'') :
  Ac A3 129 #[.agg #[.int .i64 id,.int .i64 ver,.int .i64 kind,.string lang,.slice a fs.length c],.func (.func 131) #[] #[],.string codes] w fun e w'=>∃ v,e=.returned v∧AX w' w.heap.size v (Cz p codes.data.toList fs)∧A6 w.heap.size w w':=by
 obtain⟨i0,hi0,hz0,hz1,hz2⟩:=BR info_str
 have HI:=J hi0;clear hi0
 obtain⟨W,hW⟩:∃ W,w.alloc (.cells #[.int .i64 id,.int .i64 ver,.int .i64 kind,.string lang,.slice a fs.length c] 51)=W:=⟨_,rfl⟩
 have hB:A6 w.heap.size w W:=by rw[← hW];exact Aa _ _
 have c4:W.cell? ⟨w.heap.size,4,A4⟩=A2 (.slice a fs.length c):=by rw[← hW];simp
 have HS:=J (h.below hB);clear h
 have hlen:=hM.len
 have hcap:=HS.out.cap
 have hbB:=hB.size
 have HCQ:=J CQ;clear CQ
 have HQP:=J hqp;clear hqp
 have HV:=J hV;clear hV
 have hemp:codes.data.toList.isEmpty=false:=by simpa using hc0
 have HEMP:=J hemp
 clear hc0 hemp
 go_enter Tryz.func129,Tryz.ntmps129
 go_wp2
 clear hW
 go_loopw [7,15] (fun v i wr=>∃ (k:Nat),k≤fs.length∧i=.int .i64 k∧AX wr W.heap.size v (Cz p codes.data.toList (fs.take k))∧A6 W.heap.size W wr) (fun _ i _=>fs.length - (Ad i).toNat)
 case atStart=>exact⟨0,Ae _,by go_num,AH _ _ _ _,Ab _ _⟩
 case round =>
  obtain⟨k,hk,rfl,hown,hb⟩:=hrel
  have hbs:=hb.size
  by_cases hlt:k<fs.length
  ·obtain⟨f,hf⟩:∃ f,fs[k]?=A2 f:=⟨_,A7 hlt⟩
   have hfm:=Ag hf
   obtain⟨B,o,sa,sc,rfl,hbl,d0,d1,d2,d3,hsub⟩:=HS.out.get hf
   replace d0:=A0 hb d0
   replace d1:=A0 hb d1
   replace d2:=A0 hb d2
   replace d3:=A0 hb d3
   have hpt:=IF (p:=p) (codes:=codes.data.toList) hf
   have hpl:=JZ (p:=p) (codes:=codes.data.toList) (fs:=fs.take k) (fun g hg=>hM.words g (Cb hg) _)
   rw[Az]at hpl
   have hwf:=hM.words f hfm codes.data.toList
   have hsl:=hM.subs f hfm
   have HGD:=J (HV.out f hfm)
   obtain⟨acc,hacc⟩:∃ acc,Cz p codes.data.toList (fs.take k)=acc:=⟨_,rfl⟩
   rw[hacc]at hown hpt hpl
   have hpl2:acc.length≤1000000:=by omega
   clear hpl hacc hf
   obtain⟨W1,hW1⟩:∃ W1,wr.alloc (.cells #[.string f.tag,.string f.ind,.slice sa f.subs.length sc,.int .i64 f.auth] 84)=W1:=⟨_,rfl⟩
   have hb1:A6 wr.heap.size wr W1:=by rw[← hW1];exact Aa _ _
   have z0:W1.cell? ⟨wr.heap.size,0,A4⟩=A2 (.string f.tag):=by rw[← hW1];simp
   have z2:W1.cell? ⟨wr.heap.size,2,A4⟩=A2 (.slice sa f.subs.length sc):=by rw[← hW1];simp
   have HSUB:=J hsub;clear hsub
   have CQ:Hid (∀ b,q f.tag=b→Ac A3 131 #[.string f.tag] W1 fun e w''=>e=.returned (.bool b)∧A6 W1.heap.size W1 w''):=J (fun b hb9=>by rw[← hb9];exact HCQ.out W1 f.tag (A8 hB (A8 hb hb1)))
   cases hq:q f.tag with
   | false =>
    rw[if_neg (by rw[HQP.out,hq];decide),AD]at hpt
    have HPT:=J hpt
    have HQ:=J hq
    clear hpt hq
    go_wp2_with (go_at_call 131;((with_reducible refine (CQ.out false HQ.out).mono ?_);rintro e w2 ⟨rfl,hb2⟩))
    have hb3:=A8 hb1 hb2
    go_roundw
    case rel=>exact⟨k+1,hlt,by go_num,by rw[HPT.out];exact own_below hown hb3,A8 hb hb3⟩
    case measure=>simp[Ad];omega
   | true =>
    rw[if_pos (by rw[HQP.out,hq])]at hpt
    have HPT:=J hpt
    have HQ:=J hq
    clear hpt hq
    have hscap:=HSUB.out.cap
    go_wp2_with (go_at_call 131;((with_reducible refine (CQ.out true HQ.out).mono ?_);rintro e w2 ⟨rfl,hb2⟩;have z3:=A0 hb2 z2))
    have hb3:=A8 hb (A8 hb1 hb2)
    have own3:=own_below hown (A8 hb1 hb2)
    clear z0 z2 z3 hW1 hown d0 d1 d2 d3
    go_loopw [7,27] (fun v i wr=>∃ (j:Nat),j≤f.subs.length∧i=.int .i64 j∧AX wr W.heap.size v (acc++(BX (f.subs.take j) codes.data.toList).flatMap fun s=>Bh s.data.toList)∧A6 W.heap.size W wr) (fun _ i _=>f.subs.length - (Ad i).toNat)
    case atStart=>exact⟨0,Ae _,by go_num,by show AX _ _ _ (acc++[]);rw[AD];exact own3,hb3⟩
    case round =>
     obtain⟨j,hj,rfl,hown4,hb4⟩:=hrel
     have hb4s:=hb4.size
     by_cases hlt2:j<f.subs.length
     ·obtain⟨x,hx⟩:∃ x,f.subs[j]?=A2 x:=⟨_,A7 hlt2⟩
      obtain⟨sb,so,rfl,hsb,x0,x1⟩:=HSUB.out.get hx
      replace x0:=A0 hb4 x0
      replace x1:=A0 hb4 x1
      have hxg:=HGD.out.2 x (Ag hx)
      have hwt:=Ix.words_take (codes:=codes.data.toList) hx
      have hwl:=Ix.words_le codes.data.toList f.subs j
      have hwl2:=Ix.words_le codes.data.toList f.subs (j+1)
      have hwf2:((BX f.subs codes.data.toList).flatMap fun s=>Bh s.data.toList).length≤12500:=hwf
      obtain⟨pr,hpr⟩:∃ pr,((BX (f.subs.take j) codes.data.toList).flatMap fun s=>Bh s.data.toList)=pr:=⟨_,rfl⟩
      rw[hwt]at hwl2
      rw[hpr]at hown4 hwt hwl hwl2
      have hix:=Rc.indexByte_mem codes.data.toList x.1
      have hhc:Fq codes.data.toList x.1=codes.data.toList.contains x.1:=by unfold Fq;rw[HEMP.out,GZ]
      have hal:(acc++pr).length≤1050000:=by rw[Af];omega
      obtain⟨W2,hW2⟩:∃ W2,wr.alloc (.cells #[.int .u8 x.1.toNat,.string x.2] 96)=W2:=⟨_,rfl⟩
      have hb6:A6 wr.heap.size wr W2:=by rw[← hW2];exact Aa _ _
      have y0:W2.cell? ⟨wr.heap.size,0,A4⟩=A2 (.int .u8 x.1.toNat):=by rw[← hW2];simp
      have y1:W2.cell? ⟨wr.heap.size,1,A4⟩=A2 (.string x.2):=by rw[← hW2];simp
      have own4:=own_below hown4 hb6
      by_cases hm:x.1∈codes.data.toList
      ·have hge:=hix.2 hm
       rw[if_pos (by rw[hhc];simpa using hm)]at hwt hwl2
       obtain⟨ws,hws⟩:∃ ws,Bh x.2.data.toList=ws:=⟨_,rfl⟩
       rw[hws]at hwt hwl2
       rw[Af]at hwl2
       have HWS:=J hws
       have HWT:=J hwt
       obtain⟨A,hA⟩:∃ A,acc++pr=A:=⟨_,rfl⟩
       have HA:=J hA
       rw[hA]at own4 hal
       have CW:Hid (Ac A3 208 #[.string x.2] W2 fun e w'=>∃ A xs,e=.returned (.slice (A2 ⟨A,0,A4⟩) xs.length xs.length)∧xs.map (·.data.toList)=ws∧SLA w' (A2 ⟨A,0,A4⟩) xs.length xs∧W2.heap.size≤A∧A6 W2.heap.size W2 w'):=J (by
        rw[← hws]
        exact text_Words_c x.2 W2 (hG.below (A8 hB (A8 hb4 hb6))) (by have:=hxg.1;omega) hxg.2)
       have hwsl:ws.length≤12500:=by omega
       clear hix hhc hwt hwl hwl2 hwf2 hx hpr hm hws hA hxg hown4 hwf hpl2
       go_wp2_with (first
        |(at_builtin;go_must (refine wpList_append_sl rfl _ _ 26 rfl W.heap.size 9 i0 _ 1 16 Bb HI.out hz0 hz1 hz2 rfl (by decide) _ A.length _ rfl own5 (A2 ⟨A5,0,A4⟩) xs.length xs.length (xs.map AW) rfl (by simp) (fun h9=>by cases h9) (fun ad had=>by cases had;exact hs5.out.cells _ rfl) (SLA.ones xs) (by unfold Au;have:=HK.out;omega) (by have:=HK.out;omega) (by omega) ?_);intro v7 w7 hown7 hg7 hnil7)
        |(go_at_call 185;refine (Tryz.strings_IndexByte codes x.1.toNat _).mono ?_;rintro e w4 ⟨rfl,rfl⟩)
        |(go_at_call 208;((with_reducible refine CW.out.mono ?_);rintro e w5 ⟨A5,xs,rfl,hxs,hs5',hA5,hb7⟩;have hs5:=J hs5';have HXS:=J hxs;have own5:=own_below own4 hb7;have hb8:=A8 hb6 hb7;have hxl:xs.length=ws.length:=(by rw[← HXS.out,At]);have HK:Hid (A.length+xs.length≤1100000):=J (by rw[hxl];omega);have hs7:=hb8.size;have HXL:=J hxl;clear hs5' hxs hxl)))
       have hgA:A6 W.heap.size W w7:=(A8 hb4 hb8).grown hg7 (by omega) (fun i hi=>(own5.lt i hi).1)
       go_roundw
       case rel=>exact⟨j+1,hlt2,by go_num,by rw[HWT.out,← B0,HA.out];exact Ix.own_words hown7 HXS.out,hgA⟩
       case measure=>simp[Ad];omega
      ·have hge:DJ codes.data.toList x.1<0:=by
        have h9:¬ 0≤DJ codes.data.toList x.1:=fun h8=>hm (hix.1 h8)
        omega
       rw[if_neg (by rw[hhc];simpa using hm),AD]at hwt
       have HWT:=J hwt
       clear hix hhc hwt hwl hwl2 hwf2 hx hpr hm hal
       go_wp2_with (go_at_call 185;refine (Tryz.strings_IndexByte codes x.1.toNat _).mono ?_;rintro e w4 ⟨rfl,rfl⟩)
       go_roundw
       case rel=>exact⟨j+1,hlt2,by go_num,by rw[HWT.out];exact own4,A8 hb4 hb6⟩
       case measure=>simp[Ad];omega
     ·obtain rfl:j=f.subs.length:=by omega
      rw[Ap]at hown4
      go_wp2
      go_roundw
      case rel=>exact⟨k+1,hlt,by go_num,by rw[HPT.out];exact hown4,hb4⟩
      case measure=>simp[Ad];omega
  ·obtain rfl:k=fs.length:=by omega
   rw[Ap]at hown
   go_wp2
   go_ret
   exact⟨_,rfl,Cr hown hbB,A8 hB hb⟩
theorem picks_p5_c (fs:List BS) (a:Option Ao) (c:Nat) (id ver kind:Int) (lang:ByteArray)  (q:ByteArray→Bool) (p:BS→Bool) (hqp:∀ f,p f=q f.tag) (codes:ByteArray) (hc0:codes.data.toList≠[]) (w:A9) (hG:G w) (h:AV w a c fs) (hM:EI fs) (hV:∀ f∈fs,Ho f)
  (CQ:∀ w' tag,A6 w.heap.size w w'→Ac A3 133 #[.string tag] w' fun e w''=>e=.returned (.bool (q tag))∧A6 w'.heap.size w' w'') :
  Ac A3 129 #[.agg #[.int .i64 id,.int .i64 ver,.int .i64 kind,.string lang,.slice a fs.length c],.func (.func 133) #[] #[],.string codes] w fun e w'=>∃ v,e=.returned v∧AX w' w.heap.size v (Cz p codes.data.toList fs)∧A6 w.heap.size w w':=by
 obtain⟨i0,hi0,hz0,hz1,hz2⟩:=BR info_str
 have HI:=J hi0;clear hi0
 obtain⟨W,hW⟩:∃ W,w.alloc (.cells #[.int .i64 id,.int .i64 ver,.int .i64 kind,.string lang,.slice a fs.length c] 51)=W:=⟨_,rfl⟩
 have hB:A6 w.heap.size w W:=by rw[← hW];exact Aa _ _
 have c4:W.cell? ⟨w.heap.size,4,A4⟩=A2 (.slice a fs.length c):=by rw[← hW];simp
 have HS:=J (h.below hB);clear h
 have hlen:=hM.len
 have hcap:=HS.out.cap
 have hbB:=hB.size
 have HCQ:=J CQ;clear CQ
 have HQP:=J hqp;clear hqp
 have HV:=J hV;clear hV
 have hemp:codes.data.toList.isEmpty=false:=by simpa using hc0
 have HEMP:=J hemp
 clear hc0 hemp
 go_enter Tryz.func129,Tryz.ntmps129
 go_wp2
 clear hW
 go_loopw [7,15] (fun v i wr=>∃ (k:Nat),k≤fs.length∧i=.int .i64 k∧AX wr W.heap.size v (Cz p codes.data.toList (fs.take k))∧A6 W.heap.size W wr) (fun _ i _=>fs.length - (Ad i).toNat)
 case atStart=>exact⟨0,Ae _,by go_num,AH _ _ _ _,Ab _ _⟩
 case round =>
  obtain⟨k,hk,rfl,hown,hb⟩:=hrel
  have hbs:=hb.size
  by_cases hlt:k<fs.length
  ·obtain⟨f,hf⟩:∃ f,fs[k]?=A2 f:=⟨_,A7 hlt⟩
   have hfm:=Ag hf
   obtain⟨B,o,sa,sc,rfl,hbl,d0,d1,d2,d3,hsub⟩:=HS.out.get hf
   replace d0:=A0 hb d0
   replace d1:=A0 hb d1
   replace d2:=A0 hb d2
   replace d3:=A0 hb d3
   have hpt:=IF (p:=p) (codes:=codes.data.toList) hf
   have hpl:=JZ (p:=p) (codes:=codes.data.toList) (fs:=fs.take k) (fun g hg=>hM.words g (Cb hg) _)
   rw[Az]at hpl
   have hwf:=hM.words f hfm codes.data.toList
   have hsl:=hM.subs f hfm
   have HGD:=J (HV.out f hfm)
   obtain⟨acc,hacc⟩:∃ acc,Cz p codes.data.toList (fs.take k)=acc:=⟨_,rfl⟩
   rw[hacc]at hown hpt hpl
   have hpl2:acc.length≤1000000:=by omega
   clear hpl hacc hf
   obtain⟨W1,hW1⟩:∃ W1,wr.alloc (.cells #[.string f.tag,.string f.ind,.slice sa f.subs.length sc,.int .i64 f.auth] 84)=W1:=⟨_,rfl⟩
   have hb1:A6 wr.heap.size wr W1:=by rw[← hW1];exact Aa _ _
   have z0:W1.cell? ⟨wr.heap.size,0,A4⟩=A2 (.string f.tag):=by rw[← hW1];simp
   have z2:W1.cell? ⟨wr.heap.size,2,A4⟩=A2 (.slice sa f.subs.length sc):=by rw[← hW1];simp
   have HSUB:=J hsub;clear hsub
   have CQ:Hid (∀ b,q f.tag=b→Ac A3 133 #[.string f.tag] W1 fun e w''=>e=.returned (.bool b)∧A6 W1.heap.size W1 w''):=J (fun b hb9=>by rw[← hb9];exact HCQ.out W1 f.tag (A8 hB (A8 hb hb1)))
   cases hq:q f.tag with
   | false =>
    rw[if_neg (by rw[HQP.out,hq];decide),AD]at hpt
    have HPT:=J hpt
    have HQ:=J hq
    clear hpt hq
    go_wp2_with (go_at_call 133;((with_reducible refine (CQ.out false HQ.out).mono ?_);rintro e w2 ⟨rfl,hb2⟩))
    have hb3:=A8 hb1 hb2
    go_roundw
    case rel=>exact⟨k+1,hlt,by go_num,by rw[HPT.out];exact own_below hown hb3,A8 hb hb3⟩
    case measure=>simp[Ad];omega
   | true =>
    rw[if_pos (by rw[HQP.out,hq])]at hpt
    have HPT:=J hpt
    have HQ:=J hq
    clear hpt hq
    have hscap:=HSUB.out.cap
    go_wp2_with (go_at_call 133;((with_reducible refine (CQ.out true HQ.out).mono ?_);rintro e w2 ⟨rfl,hb2⟩;have z3:=A0 hb2 z2))
    have hb3:=A8 hb (A8 hb1 hb2)
    have own3:=own_below hown (A8 hb1 hb2)
    clear z0 z2 z3 hW1 hown d0 d1 d2 d3
    go_loopw [7,27] (fun v i wr=>∃ (j:Nat),j≤f.subs.length∧i=.int .i64 j∧AX wr W.heap.size v (acc++(BX (f.subs.take j) codes.data.toList).flatMap fun s=>Bh s.data.toList)∧A6 W.heap.size W wr) (fun _ i _=>f.subs.length - (Ad i).toNat)
    case atStart=>exact⟨0,Ae _,by go_num,by show AX _ _ _ (acc++[]);rw[AD];exact own3,hb3⟩
    case round =>
     obtain⟨j,hj,rfl,hown4,hb4⟩:=hrel
     have hb4s:=hb4.size
     by_cases hlt2:j<f.subs.length
     ·obtain⟨x,hx⟩:∃ x,f.subs[j]?=A2 x:=⟨_,A7 hlt2⟩
      obtain⟨sb,so,rfl,hsb,x0,x1⟩:=HSUB.out.get hx
      replace x0:=A0 hb4 x0
      replace x1:=A0 hb4 x1
      have hxg:=HGD.out.2 x (Ag hx)
      have hwt:=Ix.words_take (codes:=codes.data.toList) hx
      have hwl:=Ix.words_le codes.data.toList f.subs j
      have hwl2:=Ix.words_le codes.data.toList f.subs (j+1)
      have hwf2:((BX f.subs codes.data.toList).flatMap fun s=>Bh s.data.toList).length≤12500:=hwf
      obtain⟨pr,hpr⟩:∃ pr,((BX (f.subs.take j) codes.data.toList).flatMap fun s=>Bh s.data.toList)=pr:=⟨_,rfl⟩
      rw[hwt]at hwl2
      rw[hpr]at hown4 hwt hwl hwl2
      have hix:=Rc.indexByte_mem codes.data.toList x.1
      have hhc:Fq codes.data.toList x.1=codes.data.toList.contains x.1:=by unfold Fq;rw[HEMP.out,GZ]
      have hal:(acc++pr).length≤1050000:=by rw[Af];omega
      obtain⟨W2,hW2⟩:∃ W2,wr.alloc (.cells #[.int .u8 x.1.toNat,.string x.2] 96)=W2:=⟨_,rfl⟩
      have hb6:A6 wr.heap.size wr W2:=by rw[← hW2];exact Aa _ _
      have y0:W2.cell? ⟨wr.heap.size,0,A4⟩=A2 (.int .u8 x.1.toNat):=by rw[← hW2];simp
      have y1:W2.cell? ⟨wr.heap.size,1,A4⟩=A2 (.string x.2):=by rw[← hW2];simp
      have own4:=own_below hown4 hb6
      by_cases hm:x.1∈codes.data.toList
      ·have hge:=hix.2 hm
       rw[if_pos (by rw[hhc];simpa using hm)]at hwt hwl2
       obtain⟨ws,hws⟩:∃ ws,Bh x.2.data.toList=ws:=⟨_,rfl⟩
       rw[hws]at hwt hwl2
       rw[Af]at hwl2
       have HWS:=J hws
       have HWT:=J hwt
       obtain⟨A,hA⟩:∃ A,acc++pr=A:=⟨_,rfl⟩
       have HA:=J hA
       rw[hA]at own4 hal
       have CW:Hid (Ac A3 208 #[.string x.2] W2 fun e w'=>∃ A xs,e=.returned (.slice (A2 ⟨A,0,A4⟩) xs.length xs.length)∧xs.map (·.data.toList)=ws∧SLA w' (A2 ⟨A,0,A4⟩) xs.length xs∧W2.heap.size≤A∧A6 W2.heap.size W2 w'):=J (by
        rw[← hws]
        exact text_Words_c x.2 W2 (hG.below (A8 hB (A8 hb4 hb6))) (by have:=hxg.1;omega) hxg.2)
       have hwsl:ws.length≤12500:=by omega
       clear hix hhc hwt hwl hwl2 hwf2 hx hpr hm hws hA hxg hown4 hwf hpl2
       go_wp2_with (first
        |(at_builtin;go_must (refine wpList_append_sl rfl _ _ 26 rfl W.heap.size 9 i0 _ 1 16 Bb HI.out hz0 hz1 hz2 rfl (by decide) _ A.length _ rfl own5 (A2 ⟨A5,0,A4⟩) xs.length xs.length (xs.map AW) rfl (by simp) (fun h9=>by cases h9) (fun ad had=>by cases had;exact hs5.out.cells _ rfl) (SLA.ones xs) (by unfold Au;have:=HK.out;omega) (by have:=HK.out;omega) (by omega) ?_);intro v7 w7 hown7 hg7 hnil7)
        |(go_at_call 185;refine (Tryz.strings_IndexByte codes x.1.toNat _).mono ?_;rintro e w4 ⟨rfl,rfl⟩)
        |(go_at_call 208;((with_reducible refine CW.out.mono ?_);rintro e w5 ⟨A5,xs,rfl,hxs,hs5',hA5,hb7⟩;have hs5:=J hs5';have HXS:=J hxs;have own5:=own_below own4 hb7;have hb8:=A8 hb6 hb7;have hxl:xs.length=ws.length:=(by rw[← HXS.out,At]);have HK:Hid (A.length+xs.length≤1100000):=J (by rw[hxl];omega);have hs7:=hb8.size;have HXL:=J hxl;clear hs5' hxs hxl)))
       have hgA:A6 W.heap.size W w7:=(A8 hb4 hb8).grown hg7 (by omega) (fun i hi=>(own5.lt i hi).1)
       go_roundw
       case rel=>exact⟨j+1,hlt2,by go_num,by rw[HWT.out,← B0,HA.out];exact Ix.own_words hown7 HXS.out,hgA⟩
       case measure=>simp[Ad];omega
      ·have hge:DJ codes.data.toList x.1<0:=by
        have h9:¬ 0≤DJ codes.data.toList x.1:=fun h8=>hm (hix.1 h8)
        omega
       rw[if_neg (by rw[hhc];simpa using hm),AD]at hwt
       have HWT:=J hwt
       clear hix hhc hwt hwl hwl2 hwf2 hx hpr hm hal
       go_wp2_with (go_at_call 185;refine (Tryz.strings_IndexByte codes x.1.toNat _).mono ?_;rintro e w4 ⟨rfl,rfl⟩)
       go_roundw
       case rel=>exact⟨j+1,hlt2,by go_num,by rw[HWT.out];exact own4,A8 hb4 hb6⟩
       case measure=>simp[Ad];omega
     ·obtain rfl:j=f.subs.length:=by omega
      rw[Ap]at hown4
      go_wp2
      go_roundw
      case rel=>exact⟨k+1,hlt,by go_num,by rw[HPT.out];exact hown4,hb4⟩
      case measure=>simp[Ad];omega
  ·obtain rfl:k=fs.length:=by omega
   rw[Ap]at hown
   go_wp2
   go_ret
   exact⟨_,rfl,Cr hown hbB,A8 hB hb⟩
theorem picks_tg_c (fs:List BS) (a:Option Ao) (c:Nat) (id ver kind:Int) (lang:ByteArray) (bx:Nat) (q:ByteArray→Bool) (p:BS→Bool) (hqp:∀ f,p f=q f.tag) (codes:ByteArray) (hc0:codes.data.toList≠[]) (w:A9) (hG:G w) (h:AV w a c fs) (hM:EI fs) (hV:∀ f∈fs,Ho f)
  (CQ:∀ w' tag,A6 w.heap.size w w'→Ac A3 209 #[.string tag,.pointer (A2 ⟨bx,0,A4⟩)] w' fun e w''=>e=.returned (.bool (q tag))∧A6 w'.heap.size w' w'') :
  Ac A3 129 #[.agg #[.int .i64 id,.int .i64 ver,.int .i64 kind,.string lang,.slice a fs.length c],.func (.func 209) #[] #[.pointer (A2 ⟨bx,0,A4⟩)],.string codes] w fun e w'=>∃ v,e=.returned v∧AX w' w.heap.size v (Cz p codes.data.toList fs)∧A6 w.heap.size w w':=by
 obtain⟨i0,hi0,hz0,hz1,hz2⟩:=BR info_str
 have HI:=J hi0;clear hi0
 obtain⟨W,hW⟩:∃ W,w.alloc (.cells #[.int .i64 id,.int .i64 ver,.int .i64 kind,.string lang,.slice a fs.length c] 51)=W:=⟨_,rfl⟩
 have hB:A6 w.heap.size w W:=by rw[← hW];exact Aa _ _
 have c4:W.cell? ⟨w.heap.size,4,A4⟩=A2 (.slice a fs.length c):=by rw[← hW];simp
 have HS:=J (h.below hB);clear h
 have hlen:=hM.len
 have hcap:=HS.out.cap
 have hbB:=hB.size
 have HCQ:=J CQ;clear CQ
 have HQP:=J hqp;clear hqp
 have HV:=J hV;clear hV
 have hemp:codes.data.toList.isEmpty=false:=by simpa using hc0
 have HEMP:=J hemp
 clear hc0 hemp
 go_enter Tryz.func129,Tryz.ntmps129
 go_wp2
 clear hW
 go_loopw [7,15] (fun v i wr=>∃ (k:Nat),k≤fs.length∧i=.int .i64 k∧AX wr W.heap.size v (Cz p codes.data.toList (fs.take k))∧A6 W.heap.size W wr) (fun _ i _=>fs.length - (Ad i).toNat)
 case atStart=>exact⟨0,Ae _,by go_num,AH _ _ _ _,Ab _ _⟩
 case round =>
  obtain⟨k,hk,rfl,hown,hb⟩:=hrel
  have hbs:=hb.size
  by_cases hlt:k<fs.length
  ·obtain⟨f,hf⟩:∃ f,fs[k]?=A2 f:=⟨_,A7 hlt⟩
   have hfm:=Ag hf
   obtain⟨B,o,sa,sc,rfl,hbl,d0,d1,d2,d3,hsub⟩:=HS.out.get hf
   replace d0:=A0 hb d0
   replace d1:=A0 hb d1
   replace d2:=A0 hb d2
   replace d3:=A0 hb d3
   have hpt:=IF (p:=p) (codes:=codes.data.toList) hf
   have hpl:=JZ (p:=p) (codes:=codes.data.toList) (fs:=fs.take k) (fun g hg=>hM.words g (Cb hg) _)
   rw[Az]at hpl
   have hwf:=hM.words f hfm codes.data.toList
   have hsl:=hM.subs f hfm
   have HGD:=J (HV.out f hfm)
   obtain⟨acc,hacc⟩:∃ acc,Cz p codes.data.toList (fs.take k)=acc:=⟨_,rfl⟩
   rw[hacc]at hown hpt hpl
   have hpl2:acc.length≤1000000:=by omega
   clear hpl hacc hf
   obtain⟨W1,hW1⟩:∃ W1,wr.alloc (.cells #[.string f.tag,.string f.ind,.slice sa f.subs.length sc,.int .i64 f.auth] 84)=W1:=⟨_,rfl⟩
   have hb1:A6 wr.heap.size wr W1:=by rw[← hW1];exact Aa _ _
   have z0:W1.cell? ⟨wr.heap.size,0,A4⟩=A2 (.string f.tag):=by rw[← hW1];simp
   have z2:W1.cell? ⟨wr.heap.size,2,A4⟩=A2 (.slice sa f.subs.length sc):=by rw[← hW1];simp
   have HSUB:=J hsub;clear hsub
   have CQ:Hid (∀ b,q f.tag=b→Ac A3 209 #[.string f.tag,.pointer (A2 ⟨bx,0,A4⟩)] W1 fun e w''=>e=.returned (.bool b)∧A6 W1.heap.size W1 w''):=J (fun b hb9=>by rw[← hb9];exact HCQ.out W1 f.tag (A8 hB (A8 hb hb1)))
   cases hq:q f.tag with
   | false =>
    rw[if_neg (by rw[HQP.out,hq];decide),AD]at hpt
    have HPT:=J hpt
    have HQ:=J hq
    clear hpt hq
    go_wp2_with (go_at_call 209;((with_reducible refine (CQ.out false HQ.out).mono ?_);rintro e w2 ⟨rfl,hb2⟩))
    have hb3:=A8 hb1 hb2
    go_roundw
    case rel=>exact⟨k+1,hlt,by go_num,by rw[HPT.out];exact own_below hown hb3,A8 hb hb3⟩
    case measure=>simp[Ad];omega
   | true =>
    rw[if_pos (by rw[HQP.out,hq])]at hpt
    have HPT:=J hpt
    have HQ:=J hq
    clear hpt hq
    have hscap:=HSUB.out.cap
    go_wp2_with (go_at_call 209;((with_reducible refine (CQ.out true HQ.out).mono ?_);rintro e w2 ⟨rfl,hb2⟩;have z3:=A0 hb2 z2))
    have hb3:=A8 hb (A8 hb1 hb2)
    have own3:=own_below hown (A8 hb1 hb2)
    clear z0 z2 z3 hW1 hown d0 d1 d2 d3
    go_loopw [7,27] (fun v i wr=>∃ (j:Nat),j≤f.subs.length∧i=.int .i64 j∧AX wr W.heap.size v (acc++(BX (f.subs.take j) codes.data.toList).flatMap fun s=>Bh s.data.toList)∧A6 W.heap.size W wr) (fun _ i _=>f.subs.length - (Ad i).toNat)
    case atStart=>exact⟨0,Ae _,by go_num,by show AX _ _ _ (acc++[]);rw[AD];exact own3,hb3⟩
    case round =>
     obtain⟨j,hj,rfl,hown4,hb4⟩:=hrel
     have hb4s:=hb4.size
     by_cases hlt2:j<f.subs.length
     ·obtain⟨x,hx⟩:∃ x,f.subs[j]?=A2 x:=⟨_,A7 hlt2⟩
      obtain⟨sb,so,rfl,hsb,x0,x1⟩:=HSUB.out.get hx
      replace x0:=A0 hb4 x0
      replace x1:=A0 hb4 x1
      have hxg:=HGD.out.2 x (Ag hx)
      have hwt:=Ix.words_take (codes:=codes.data.toList) hx
      have hwl:=Ix.words_le codes.data.toList f.subs j
      have hwl2:=Ix.words_le codes.data.toList f.subs (j+1)
      have hwf2:((BX f.subs codes.data.toList).flatMap fun s=>Bh s.data.toList).length≤12500:=hwf
      obtain⟨pr,hpr⟩:∃ pr,((BX (f.subs.take j) codes.data.toList).flatMap fun s=>Bh s.data.toList)=pr:=⟨_,rfl⟩
      rw[hwt]at hwl2
      rw[hpr]at hown4 hwt hwl hwl2
      have hix:=Rc.indexByte_mem codes.data.toList x.1
      have hhc:Fq codes.data.toList x.1=codes.data.toList.contains x.1:=by unfold Fq;rw[HEMP.out,GZ]
      have hal:(acc++pr).length≤1050000:=by rw[Af];omega
      obtain⟨W2,hW2⟩:∃ W2,wr.alloc (.cells #[.int .u8 x.1.toNat,.string x.2] 96)=W2:=⟨_,rfl⟩
      have hb6:A6 wr.heap.size wr W2:=by rw[← hW2];exact Aa _ _
      have y0:W2.cell? ⟨wr.heap.size,0,A4⟩=A2 (.int .u8 x.1.toNat):=by rw[← hW2];simp
      have y1:W2.cell? ⟨wr.heap.size,1,A4⟩=A2 (.string x.2):=by rw[← hW2];simp
      have own4:=own_below hown4 hb6
      by_cases hm:x.1∈codes.data.toList
      ·have hge:=hix.2 hm
       rw[if_pos (by rw[hhc];simpa using hm)]at hwt hwl2
       obtain⟨ws,hws⟩:∃ ws,Bh x.2.data.toList=ws:=⟨_,rfl⟩
       rw[hws]at hwt hwl2
       rw[Af]at hwl2
       have HWS:=J hws
       have HWT:=J hwt
       obtain⟨A,hA⟩:∃ A,acc++pr=A:=⟨_,rfl⟩
       have HA:=J hA
       rw[hA]at own4 hal
       have CW:Hid (Ac A3 208 #[.string x.2] W2 fun e w'=>∃ A xs,e=.returned (.slice (A2 ⟨A,0,A4⟩) xs.length xs.length)∧xs.map (·.data.toList)=ws∧SLA w' (A2 ⟨A,0,A4⟩) xs.length xs∧W2.heap.size≤A∧A6 W2.heap.size W2 w'):=J (by
        rw[← hws]
        exact text_Words_c x.2 W2 (hG.below (A8 hB (A8 hb4 hb6))) (by have:=hxg.1;omega) hxg.2)
       have hwsl:ws.length≤12500:=by omega
       clear hix hhc hwt hwl hwl2 hwf2 hx hpr hm hws hA hxg hown4 hwf hpl2
       go_wp2_with (first
        |(at_builtin;go_must (refine wpList_append_sl rfl _ _ 26 rfl W.heap.size 9 i0 _ 1 16 Bb HI.out hz0 hz1 hz2 rfl (by decide) _ A.length _ rfl own5 (A2 ⟨A5,0,A4⟩) xs.length xs.length (xs.map AW) rfl (by simp) (fun h9=>by cases h9) (fun ad had=>by cases had;exact hs5.out.cells _ rfl) (SLA.ones xs) (by unfold Au;have:=HK.out;omega) (by have:=HK.out;omega) (by omega) ?_);intro v7 w7 hown7 hg7 hnil7)
        |(go_at_call 185;refine (Tryz.strings_IndexByte codes x.1.toNat _).mono ?_;rintro e w4 ⟨rfl,rfl⟩)
        |(go_at_call 208;((with_reducible refine CW.out.mono ?_);rintro e w5 ⟨A5,xs,rfl,hxs,hs5',hA5,hb7⟩;have hs5:=J hs5';have HXS:=J hxs;have own5:=own_below own4 hb7;have hb8:=A8 hb6 hb7;have hxl:xs.length=ws.length:=(by rw[← HXS.out,At]);have HK:Hid (A.length+xs.length≤1100000):=J (by rw[hxl];omega);have hs7:=hb8.size;have HXL:=J hxl;clear hs5' hxs hxl)))
       have hgA:A6 W.heap.size W w7:=(A8 hb4 hb8).grown hg7 (by omega) (fun i hi=>(own5.lt i hi).1)
       go_roundw
       case rel=>exact⟨j+1,hlt2,by go_num,by rw[HWT.out,← B0,HA.out];exact Ix.own_words hown7 HXS.out,hgA⟩
       case measure=>simp[Ad];omega
      ·have hge:DJ codes.data.toList x.1<0:=by
        have h9:¬ 0≤DJ codes.data.toList x.1:=fun h8=>hm (hix.1 h8)
        omega
       rw[if_neg (by rw[hhc];simpa using hm),AD]at hwt
       have HWT:=J hwt
       clear hix hhc hwt hwl hwl2 hwf2 hx hpr hm hal
       go_wp2_with (go_at_call 185;refine (Tryz.strings_IndexByte codes x.1.toNat _).mono ?_;rintro e w4 ⟨rfl,rfl⟩)
       go_roundw
       case rel=>exact⟨j+1,hlt2,by go_num,by rw[HWT.out];exact own4,A8 hb4 hb6⟩
       case measure=>simp[Ad];omega
     ·obtain rfl:j=f.subs.length:=by omega
      rw[Ap]at hown4
      go_wp2
      go_roundw
      case rel=>exact⟨k+1,hlt,by go_num,by rw[HPT.out];exact hown4,hb4⟩
      case measure=>simp[Ad];omega
  ·obtain rfl:k=fs.length:=by omega
   rw[Ap]at hown
   go_wp2
   go_ret
   exact⟨_,rfl,Cr hown hbB,A8 hB hb⟩
namespace Ix
open Rc
def numS (subs:List (UInt8 × ByteArray)):List By:=numL (allV subs [97])
theorem numS_take {subs:List (UInt8 × ByteArray)}{k:Nat}{x:UInt8 × ByteArray} (h:subs[k]?=A2 x):numS (subs.take (k+1))=numS (subs.take k)++(if x.1=97∧plainB x.2.data.toList≠[] then [plainB x.2.data.toList] else []):=by
 unfold numS
 rw[allV_take _ h]
 have hh:hasCode [97] x.1=true↔x.1=97:=by unfold hasCode;simp[eq_comm]
 have app:∀ A B:List ByteArray,numL (A++B)=numL A++numL B:=fun A B=>by unfold numL;rw[AS,Dc]
 rw[app]
 congr 1
 by_cases hc:x.1=97
 ·rw[if_pos (hh.2 hc)]
  by_cases hp:plainB x.2.data.toList=[]
  ·rw[if_neg (fun h9=>h9.2 hp)];unfold numL;simp[hp]
  ·rw[if_pos ⟨hc,hp⟩];unfold numL;simp[hp]
 ·rw[if_neg (fun h9=>hc (hh.1 h9)),if_neg (fun h9=>hc h9.1)];rfl
theorem numS_all (f:Fl):numS f.subs=numF f:=rfl
theorem numS_len (subs:List (UInt8 × ByteArray)):(numS subs).length≤subs.length:=by
 unfold numS
 refine AK (numL_le _) ?_
 unfold allV
 rw[At]
 exact List.length_filter_le _ _
theorem plainB_len:∀ (n:Nat) (l:By),l.length≤n→(plainB l).length≤l.length
 | 0,l,h=>by
  have:=Aw (by omega:l.length=0)
  subst this
  rw[plainB_nil]
  exact An _
 | n+1,[],_=>by rw[plainB_nil];exact An _
 | n+1,c::r,h=>by
  rw[AO]at h ⊢
  have h1:=plainB_len n r (by omega)
  have h2:=plainB_len n r.tail (by rw[Ej];omega)
  rw[Ej]at h2
  rw[plainB_cons]
  split
  ·omega
  ·split
   ·omega
   ·split <;> rw[AO] <;> omega
end Ix
theorem ix_num_c (c:Nat) (hc:c≤1114111) (w:A9):Ac A3 211 #[.int .i32 c] w fun e w'=>e=.returned (.int .i32 (Mm c))∧A6 w.heap.size w w':=by
 by_cases h1:c=45
 ·subst h1
  have HN:Hid (Mm ((45:Nat):Int)=-1):=J (by decide)
  go_enter KL,Li
  go_wp2
  go_ret
  exact⟨by rw[HN.out];rfl,Ab _ _⟩
 by_cases h2:c=32
 ·subst h2
  have HN:Hid (Mm ((32:Nat):Int)=-1):=J (by decide)
  go_enter KL,Li
  go_wp2
  go_ret
  exact⟨by rw[HN.out];rfl,Ab _ _⟩
 by_cases h3:c=160
 ·subst h3
  have HN:Hid (Mm ((160:Nat):Int)=-1):=J (by decide)
  go_enter KL,Li
  go_wp2
  go_ret
  exact⟨by rw[HN.out];rfl,Ab _ _⟩
 have t1:((c:Int) == 45)=false:=by rw[beq_eq_false_iff_ne];omega
 have t2:((c:Int) == 32)=false:=by rw[beq_eq_false_iff_ne];omega
 have t3:((c:Int) == 160)=false:=by rw[beq_eq_false_iff_ne];omega
 by_cases h4:65≤c∧c≤90
 ·have HN:Hid (Mm (c:Int)=(c:Int)+32):=J (by unfold Mm;rw[if_neg (by omega),if_pos (by omega)])
  have a1:(65:Int)≤(c:Int):=by omega
  have a2:(c:Int)≤90:=by omega
  have a3:65≤c:=by omega
  have a4:c≤90:=by omega
  clear h1 h2 h3 h4
  go_enter KL,Li
  go_wp2
  go_ret
  refine⟨?_,Ab _ _⟩
  rw[HN.out]
  show Ending.returned (B7 .i32 ((c:Int)+97 - 65))=_
  rw[show (c:Int)+97 - 65=(c:Int)+32 by omega]
 ·have HN:Hid (Mm (c:Int)=(c:Int)):=J (by unfold Mm;rw[if_neg (by omega),if_neg (by omega)])
  by_cases h5:c<65
  ·have a1:¬ (65:Int)≤(c:Int):=by omega
   have a3:¬ 65≤c:=by omega
   clear h1 h2 h3 h4
   go_enter KL,Li
   go_wp2
   go_ret
   exact⟨by rw[HN.out];rfl,Ab _ _⟩
  ·have a1:(65:Int)≤(c:Int):=by omega
   have a2:¬ (c:Int)≤90:=by omega
   have a3:65≤c:=by omega
   have a4:¬ c≤90:=by omega
   clear h1 h2 h3 h4 h5
   go_enter KL,Li
   go_wp2
   go_ret
   exact⟨by rw[HN.out];rfl,Ab _ _⟩
theorem ix_num_enters:∀ args w,(callFunc 211 args).run A3 w=.ok (.enter 211 args) w:=enters_of KL (by kernel_rfl) rfl
theorem ix_map_c (s:ByteArray) (w:A9) (hG:G w) (hs:s.size≤50000000) (hv:Tx.valid s.data.toList=true) :
  Ac A3 210 #[.func (.func 211) #[] #[],.string s] w fun e w'=>e=.returned (.string ⟨(Cm s.data.toList).toArray⟩)∧A6 w.heap.size w w':=by
 have h:=Tryz.strings_Map_grows 211 #[] ix_num_enters Mm s w (by omega) (fun W x hx _=>ix_num_c x hx W) (fun x hx=>by constructor <;> unfold Mm <;> split <;> (try split) <;> omega) hG.u
 rw[Ix.plain_map _ _ (An _) hv]at h
 exact h
theorem ix_numbers_c (fs:List BS) (a:Option Ao) (c:Nat) (id ver kind:Int) (lang:ByteArray) (w:A9) (hG:G w) (h:AV w a c fs) (hM:EI fs) (hV:∀ f∈fs,Ho f) :
  Ac A3 132 #[.agg #[.int .i64 id,.int .i64 ver,.int .i64 kind,.string lang,.slice a fs.length c]] w fun e w'=>∃ v,e=.returned v∧AX w' w.heap.size v (Ix.nums fs)∧A6 w.heap.size w w':=by
 obtain⟨i0,hi0,hz0,hz1,hz2⟩:=BR info_str
 have HI:=J hi0;clear hi0
 obtain⟨W,hW⟩:∃ W,w.alloc (.cells #[.int .i64 id,.int .i64 ver,.int .i64 kind,.string lang,.slice a fs.length c] 51)=W:=⟨_,rfl⟩
 have hB:A6 w.heap.size w W:=by rw[← hW];exact Aa _ _
 have c4:W.cell? ⟨w.heap.size,4,A4⟩=A2 (.slice a fs.length c):=by rw[← hW];simp
 have HS:=J (h.below hB);clear h
 have hlen:=hM.len
 have hcap:=HS.out.cap
 have hbB:=hB.size
 have HV:=J hV;clear hV
 go_enter Tryz.func132,Tryz.ntmps132
 go_wp2
 clear hW
 go_loopw [3,12] (fun v i wr=>∃ (k:Nat),k≤fs.length∧i=.int .i64 k∧AX wr W.heap.size v (Ix.nums (fs.take k))∧A6 W.heap.size W wr) (fun _ i _=>fs.length - (Ad i).toNat)
 case atStart=>exact⟨0,Ae _,by go_num,AH _ _ _ _,Ab _ _⟩
 case round =>
  obtain⟨k,hk,rfl,hown,hb⟩:=hrel
  have hbs:=hb.size
  by_cases hlt:k<fs.length
  ·obtain⟨f,hf⟩:∃ f,fs[k]?=A2 f:=⟨_,A7 hlt⟩
   have hfm:=Ag hf
   obtain⟨B,o,sa,sc,rfl,hbl,d0,d1,d2,d3,hsub⟩:=HS.out.get hf
   replace d0:=A0 hb d0
   replace d1:=A0 hb d1
   replace d2:=A0 hb d2
   replace d3:=A0 hb d3
   have hpt:=Ix.nums_take hf
   have hpl:=Ix.nums_le (fs:=fs.take k) (fun g hg=>hM.subs g (Cb hg))
   rw[Az]at hpl
   have hsl:=hM.subs f hfm
   have HGD:=J (HV.out f hfm)
   obtain⟨acc,hacc⟩:∃ acc,Ix.nums (fs.take k)=acc:=⟨_,rfl⟩
   rw[hacc]at hown hpt hpl
   have hpl2:acc.length≤1000000:=by omega
   clear hpl hacc hf
   obtain⟨W1,hW1⟩:∃ W1,wr.alloc (.cells #[.string f.tag,.string f.ind,.slice sa f.subs.length sc,.int .i64 f.auth] 84)=W1:=⟨_,rfl⟩
   have hb1:A6 wr.heap.size wr W1:=by rw[← hW1];exact Aa _ _
   have z0:W1.cell? ⟨wr.heap.size,0,A4⟩=A2 (.string f.tag):=by rw[← hW1];simp
   have z2:W1.cell? ⟨wr.heap.size,2,A4⟩=A2 (.slice sa f.subs.length sc):=by rw[← hW1];simp
   have HSUB:=J hsub;clear hsub
   rcases CV (f.tag.toList == [48,50,48]) with t0 | t0
   ·have b0:AQ [48,50,48] f=true:=by unfold AQ;rw[← AA];exact t0
    have hti:Ha f=true:=by unfold Ha;rw[b0];simp
    clear b0
    rw[if_pos hti]at hpt
    have HPT:=J hpt
    clear hpt hti
    have hscap:=HSUB.out.cap
    go_wp2
    clear hW1 z0
    go_loopw [3,27] (fun v i wr=>∃ (j:Nat),j≤f.subs.length∧i=.int .i64 j∧AX wr W.heap.size v (acc++Ix.numS (f.subs.take j))∧A6 W.heap.size W wr) (fun _ i _=>f.subs.length - (Ad i).toNat)
    case atStart=>exact⟨0,Ae _,by go_num,by show AX _ _ _ (acc++[]);rw[AD];exact own_below hown hb1,A8 hb hb1⟩
    case round =>
     obtain⟨j,hj,rfl,hown4,hb4⟩:=hrel
     have hb4s:=hb4.size
     by_cases hlt2:j<f.subs.length
     ·obtain⟨x,hx⟩:∃ x,f.subs[j]?=A2 x:=⟨_,A7 hlt2⟩
      obtain⟨sb,so,rfl,hsb,x0,x1⟩:=HSUB.out.get hx
      replace x0:=A0 hb4 x0
      replace x1:=A0 hb4 x1
      have hxg:=HGD.out.2 x (Ag hx)
      have hnt:=Ix.numS_take hx
      have hnl:=Ix.numS_len (f.subs.take j)
      rw[Az]at hnl
      have hpl9:=Ix.plainB_len _ x.2.data.toList (An _)
      obtain⟨A,hA⟩:∃ A,acc++Ix.numS (f.subs.take j)=A:=⟨_,rfl⟩
      have HK:Hid (A.length≤1500000):=J (by rw[← hA,Af];omega)
      have HA:=J hA
      rw[hA]at hown4
      obtain⟨P,hPP⟩:∃ P:ByteArray,(⟨(Cm x.2.data.toList).toArray⟩:ByteArray)=P:=⟨_,rfl⟩
      have HPP:=J hPP
      obtain⟨W2,hW2⟩:∃ W2,wr.alloc (.cells #[.int .u8 x.1.toNat,.string x.2] 96)=W2:=⟨_,rfl⟩
      have hb6:A6 wr.heap.size wr W2:=by rw[← hW2];exact Aa _ _
      have y0:W2.cell? ⟨wr.heap.size,0,A4⟩=A2 (.int .u8 x.1.toNat):=by rw[← hW2];simp
      have y1:W2.cell? ⟨wr.heap.size,1,A4⟩=A2 (.string x.2):=by rw[← hW2];simp
      have own4:=own_below hown4 hb6
      have CMAP:Hid (Ac A3 210 #[.func (.func 211) #[] #[],.string x.2] W2 fun e w'=>e=.returned (.string P)∧A6 W2.heap.size W2 w'):=J (by
       rw[← hPP]
       exact ix_map_c x.2 W2 (hG.below (A8 hB (A8 hb4 hb6))) (by have:=hxg.1;omega) hxg.2)
      clear hA hPP hx hxg hnl hown4 hpl9
      by_cases hP0:Cm x.2.data.toList=[]
      ·rw[if_neg (fun h9=>h9.2 hP0),AD]at hnt
       have HNT:=J hnt
       have hPe:(P.toList == [])=true:=by rw[AA,← HPP.out,hP0];rfl
       clear hnt hP0
       cases hc97:((x.1.toNat:Int) == 97)
       all_goals
        go_wp2_with (go_at_call 210;((with_reducible refine CMAP.out.mono ?_);rintro e w5 ⟨rfl,hb7⟩;have own5:=own_below own4 hb7;have hb8:=A8 hb6 hb7;have v0:=A0 hb7 y0;have s7:=hb8.size))
        go_roundw
        case rel=>exact⟨j+1,hlt2,by go_num,by rw[HNT.out,HA.out];exact own5,A8 hb4 hb8⟩
        case measure=>simp[Ad];omega
      ·have hPe:(P.toList == [])=false:=by rw[AA,← HPP.out];simpa using hP0
       by_cases hc:x.1=97
       ·rw[if_pos ⟨hc,hP0⟩]at hnt
        have HNT:=J hnt
        have hc97:((x.1.toNat:Int) == 97)=true:=by rw[hc];rfl
        have HC:=J hc
        clear hnt hP0 hc
        go_wp2_with (first
         |(at_builtin;go_must (refine wpList_append_sl rfl _ _ 26 rfl W.heap.size 9 i0 _ 1 16 Bb HI.out hz0 hz1 hz2 rfl (by decide) _ A.length _ rfl (own5.alloc _) (A2 ⟨_,0,A4⟩) 1 1 [AW P] rfl rfl (fun h9=>by cases h9) (fun ad had=>by cases had;exact AR _ _ (by first | rfl | simp) _ _) (by simp[AT]) (by unfold Au;have:=HK.out;omega) (by have:=HK.out;omega) (by simp;omega) ?_);intro v7 w7 hown7 hg7 hnil7)
         |(go_at_call 210;((with_reducible refine CMAP.out.mono ?_);rintro e w5 ⟨rfl,hb7⟩;have own5:=own_below own4 hb7;have hb8:=A8 hb6 hb7;have v0:=A0 hb7 y0;have s7:=hb8.size)))
        have hgA:A6 W.heap.size W w7:=((A8 hb4 hb8).alloc (by omega) _).grown hg7 (by simp;omega) (fun i hi=>(own5.lt i hi).1)
        go_roundw
        case rel=>exact⟨j+1,hlt2,by go_num,by unfold AX;rw[HNT.out,← B0,HA.out,Af,AS];rw[← HPP.out]at hown7;exact hown7,hgA⟩
        case measure=>simp[Ad];omega
       ·rw[if_neg (fun h9=>hc h9.1),AD]at hnt
        have HNT:=J hnt
        have hc97:((x.1.toNat:Int) == 97)=false:=by
         rw[beq_eq_false_iff_ne]
         intro e
         exact hc (UInt8.toNat_inj.1 (by show x.1.toNat=97;omega))
        clear hnt hP0 hc
        go_wp2_with (go_at_call 210;((with_reducible refine CMAP.out.mono ?_);rintro e w5 ⟨rfl,hb7⟩;have own5:=own_below own4 hb7;have hb8:=A8 hb6 hb7;have v0:=A0 hb7 y0;have s7:=hb8.size))
        go_roundw
        case rel=>exact⟨j+1,hlt2,by go_num,by rw[HNT.out,HA.out];exact own5,A8 hb4 hb8⟩
        case measure=>simp[Ad];omega
     ·obtain rfl:j=f.subs.length:=by omega
      rw[Ap,Ix.numS_all]at hown4
      go_wp2
      go_roundw
      case rel=>exact⟨k+1,hlt,by go_num,by rw[HPT.out];exact hown4,hb4⟩
      case measure=>simp[Ad];omega
   ·have b0:AQ [48,50,48] f=false:=by unfold AQ;rw[← AA];exact t0
    rcases CV (f.tag.toList == [48,50,50]) with t1 | t1
    ·have b1:AQ [48,50,50] f=true:=by unfold AQ;rw[← AA];exact t1
     have hti:Ha f=true:=by unfold Ha;rw[b1];simp
     clear b0 b1
     rw[if_pos hti]at hpt
     have HPT:=J hpt
     clear hpt hti
     have hscap:=HSUB.out.cap
     go_wp2
     clear hW1 z0
     go_loopw [3,27] (fun v i wr=>∃ (j:Nat),j≤f.subs.length∧i=.int .i64 j∧AX wr W.heap.size v (acc++Ix.numS (f.subs.take j))∧A6 W.heap.size W wr) (fun _ i _=>f.subs.length - (Ad i).toNat)
     case atStart=>exact⟨0,Ae _,by go_num,by show AX _ _ _ (acc++[]);rw[AD];exact own_below hown hb1,A8 hb hb1⟩
     case round =>
      obtain⟨j,hj,rfl,hown4,hb4⟩:=hrel
      have hb4s:=hb4.size
      by_cases hlt2:j<f.subs.length
      ·obtain⟨x,hx⟩:∃ x,f.subs[j]?=A2 x:=⟨_,A7 hlt2⟩
       obtain⟨sb,so,rfl,hsb,x0,x1⟩:=HSUB.out.get hx
       replace x0:=A0 hb4 x0
       replace x1:=A0 hb4 x1
       have hxg:=HGD.out.2 x (Ag hx)
       have hnt:=Ix.numS_take hx
       have hnl:=Ix.numS_len (f.subs.take j)
       rw[Az]at hnl
       have hpl9:=Ix.plainB_len _ x.2.data.toList (An _)
       obtain⟨A,hA⟩:∃ A,acc++Ix.numS (f.subs.take j)=A:=⟨_,rfl⟩
       have HK:Hid (A.length≤1500000):=J (by rw[← hA,Af];omega)
       have HA:=J hA
       rw[hA]at hown4
       obtain⟨P,hPP⟩:∃ P:ByteArray,(⟨(Cm x.2.data.toList).toArray⟩:ByteArray)=P:=⟨_,rfl⟩
       have HPP:=J hPP
       obtain⟨W2,hW2⟩:∃ W2,wr.alloc (.cells #[.int .u8 x.1.toNat,.string x.2] 96)=W2:=⟨_,rfl⟩
       have hb6:A6 wr.heap.size wr W2:=by rw[← hW2];exact Aa _ _
       have y0:W2.cell? ⟨wr.heap.size,0,A4⟩=A2 (.int .u8 x.1.toNat):=by rw[← hW2];simp
       have y1:W2.cell? ⟨wr.heap.size,1,A4⟩=A2 (.string x.2):=by rw[← hW2];simp
       have own4:=own_below hown4 hb6
       have CMAP:Hid (Ac A3 210 #[.func (.func 211) #[] #[],.string x.2] W2 fun e w'=>e=.returned (.string P)∧A6 W2.heap.size W2 w'):=J (by
        rw[← hPP]
        exact ix_map_c x.2 W2 (hG.below (A8 hB (A8 hb4 hb6))) (by have:=hxg.1;omega) hxg.2)
       clear hA hPP hx hxg hnl hown4 hpl9
       by_cases hP0:Cm x.2.data.toList=[]
       ·rw[if_neg (fun h9=>h9.2 hP0),AD]at hnt
        have HNT:=J hnt
        have hPe:(P.toList == [])=true:=by rw[AA,← HPP.out,hP0];rfl
        clear hnt hP0
        cases hc97:((x.1.toNat:Int) == 97)
        all_goals
         go_wp2_with (go_at_call 210;((with_reducible refine CMAP.out.mono ?_);rintro e w5 ⟨rfl,hb7⟩;have own5:=own_below own4 hb7;have hb8:=A8 hb6 hb7;have v0:=A0 hb7 y0;have s7:=hb8.size))
         go_roundw
         case rel=>exact⟨j+1,hlt2,by go_num,by rw[HNT.out,HA.out];exact own5,A8 hb4 hb8⟩
         case measure=>simp[Ad];omega
       ·have hPe:(P.toList == [])=false:=by rw[AA,← HPP.out];simpa using hP0
        by_cases hc:x.1=97
        ·rw[if_pos ⟨hc,hP0⟩]at hnt
         have HNT:=J hnt
         have hc97:((x.1.toNat:Int) == 97)=true:=by rw[hc];rfl
         have HC:=J hc
         clear hnt hP0 hc
         go_wp2_with (first
          |(at_builtin;go_must (refine wpList_append_sl rfl _ _ 26 rfl W.heap.size 9 i0 _ 1 16 Bb HI.out hz0 hz1 hz2 rfl (by decide) _ A.length _ rfl (own5.alloc _) (A2 ⟨_,0,A4⟩) 1 1 [AW P] rfl rfl (fun h9=>by cases h9) (fun ad had=>by cases had;exact AR _ _ (by first | rfl | simp) _ _) (by simp[AT]) (by unfold Au;have:=HK.out;omega) (by have:=HK.out;omega) (by simp;omega) ?_);intro v7 w7 hown7 hg7 hnil7)
          |(go_at_call 210;((with_reducible refine CMAP.out.mono ?_);rintro e w5 ⟨rfl,hb7⟩;have own5:=own_below own4 hb7;have hb8:=A8 hb6 hb7;have v0:=A0 hb7 y0;have s7:=hb8.size)))
         have hgA:A6 W.heap.size W w7:=((A8 hb4 hb8).alloc (by omega) _).grown hg7 (by simp;omega) (fun i hi=>(own5.lt i hi).1)
         go_roundw
         case rel=>exact⟨j+1,hlt2,by go_num,by unfold AX;rw[HNT.out,← B0,HA.out,Af,AS];rw[← HPP.out]at hown7;exact hown7,hgA⟩
         case measure=>simp[Ad];omega
        ·rw[if_neg (fun h9=>hc h9.1),AD]at hnt
         have HNT:=J hnt
         have hc97:((x.1.toNat:Int) == 97)=false:=by
          rw[beq_eq_false_iff_ne]
          intro e
          exact hc (UInt8.toNat_inj.1 (by show x.1.toNat=97;omega))
         clear hnt hP0 hc
         go_wp2_with (go_at_call 210;((with_reducible refine CMAP.out.mono ?_);rintro e w5 ⟨rfl,hb7⟩;have own5:=own_below own4 hb7;have hb8:=A8 hb6 hb7;have v0:=A0 hb7 y0;have s7:=hb8.size))
         go_roundw
         case rel=>exact⟨j+1,hlt2,by go_num,by rw[HNT.out,HA.out];exact own5,A8 hb4 hb8⟩
         case measure=>simp[Ad];omega
      ·obtain rfl:j=f.subs.length:=by omega
       rw[Ap,Ix.numS_all]at hown4
       go_wp2
       go_roundw
       case rel=>exact⟨k+1,hlt,by go_num,by rw[HPT.out];exact hown4,hb4⟩
       case measure=>simp[Ad];omega
    ·have b1:AQ [48,50,50] f=false:=by unfold AQ;rw[← AA];exact t1
     have hti:¬ Ha f=true:=by unfold Ha;rw[b0,b1];simp
     clear b0 b1
     rw[if_neg hti,AD]at hpt
     have HPT:=J hpt
     clear hpt hti
     go_wp2
     go_roundw
     case rel=>exact⟨k+1,hlt,by go_num,by rw[HPT.out];exact own_below hown hb1,A8 hb hb1⟩
     case measure=>simp[Ad];omega
  ·obtain rfl:k=fs.length:=by omega
   rw[Ap]at hown
   go_wp2
   go_ret
   exact⟨_,rfl,Cr hown hbB,A8 hB hb⟩
section
variable {P : Program} (w : A9)
theorem step_append_sl {ops:Array GW}{o:GW}{a:Act}{K:Act→A9→Prop}{Q:Exit→Act→A9→Prop}{E:Prop} (hgd:o.guard=A4) (s x:JS) (t:Bd)
  (ho:o.op=.call { callee:=.builtin .append,args:=#[s,x],argTypes:=#[t,t] })
  (base:Nat) (e:Bd) (i:TypeInfo) (z:Ah) (size bytes:Nat) (ht:P.underlying t=A2 (.slice e)) (hi:P.info? e=A2 i) (hz:i.zero=A2 z)
  (hsize:i.size=size) (hby:i.bytes=bytes) (hzs:z.cells.size=size) (hsz:0<size)
  (v:Ah) (n:Nat) (xs:List Ah) (hs:a.eval s=v) (hown:w.ownsRow base e size v n xs)
  (ao:Option Ao) (m c:Nat) (news:List Ah) (hx:a.eval x=.slice ao m c) (hl:news.length=m*size) (hno:ao=A4→m=0) (hnews:∀ ad,ao=A2 ad→∀ j u,news[j]?=A2 u→w.cell? (ad.add j)=A2 u) (h1:∀ u∈news,u.oneCell'=true)
  (h63:n+m≤Au) (hbytes:(n+m)*bytes≤140737488355328) (hbase:base≤w.heap.size)
  (h:∀ v' w',w'.ownsRow base e size v' (n+m) (xs++news)→w.grownBy w' v.ownBlock→K (a.put o.dst v') w') :
  if Region.wanted o (yielded ops a.tmps)=true then Oper.wp P o a w K Q else E:=by
 have hw:Region.wanted o (yielded ops a.tmps)=true:=by simp[Region.wanted,hgd]
 rw[if_pos hw]
 cases ao with
 | none =>
  obtain rfl:=hno rfl
  have hn:news=[]:=Aw (by rw[hl];omega)
  subst hn
  have hrun:=run_append_none_any (P:=P) (w:=w) base t o.type e i size ht hi v n xs hown c
  unfold Oper.wp execOp
  simp only[ho,resolve,invoke,builtin,Sem.run_bind,Sem.run_pure,Result.andThen_ok,JH,Cf,Ee,hs,hx,hrun]
  exact h v w (by simpa using hown) ⟨rfl,rfl,rfl,An _,fun _ _ _=>rfl⟩
 | some ad =>
  obtain⟨v',w',hr,h2,h3,_,_⟩:=run_append_own_at (P:=P) w base t o.type e i z size bytes ht hi hz hsize hby hzs hsz v n xs hown ad m c news hl (hnews ad rfl) h1 h63 hbytes hbase
  unfold Oper.wp execOp
  simp only[ho,resolve,invoke,builtin,Sem.run_bind,Sem.run_pure,Result.andThen_ok,JH,Cf,Ee,hs,hx,hr]
  exact h v' w' h2 h3
end
theorem SLA.new {w:A9}{xs:List ByteArray}{cs:Array Ah}{t:Bd}{X:Nat} (hX:X=w.heap.size) (hc:cs.toList=xs.map AW) (hl:xs.length≤1000):SLA (w.alloc (.cells cs t)) (A2 ⟨X,0,A4⟩) xs.length xs :=
 ⟨An _,by unfold Au;omega,X,0,fun _=>⟨rfl,by rw[hX];simp⟩,fun j x hx=>by
  have:=AR w X hX cs t j (AW x) (by rw[hc,AE,hx];rfl)
  rw[Cs.add_at]at this
  exact this⟩
namespace Ix
open Rc
theorem ba_tag (t:ByteArray) (f:Fl):tagIs t.data.toList f=decide (f.tag=t):=by
 unfold tagIs
 by_cases h:f.tag=t
 ·rw[h];simp
 ·rw[decide_eq_false h,beq_eq_false_iff_ne]
  intro e
  exact h (ByteArray.ext (Array.toList_inj.1 e))
theorem tag_one (t:ByteArray) (f:Fl):tagIs t.data.toList f=Lib.containsS [t] f.tag:=by
 rw[ba_tag,Bp,Lib.containsS_iff]
 simp
theorem auth_four (f:Fl):authB f=Lib.containsS [⟨#[49,48,48]⟩,⟨#[49,49,48]⟩,⟨#[55,48,48]⟩,⟨#[55,49,48]⟩] f.tag:=by
 rw[Bp,Lib.containsS_iff]
 unfold authB
 have e1:tagIs [49,48,48] f=decide (f.tag=⟨#[49,48,48]⟩):=ba_tag ⟨#[49,48,48]⟩ f
 have e2:tagIs [49,49,48] f=decide (f.tag=⟨#[49,49,48]⟩):=ba_tag ⟨#[49,49,48]⟩ f
 have e3:tagIs [55,48,48] f=decide (f.tag=⟨#[55,48,48]⟩):=ba_tag ⟨#[55,48,48]⟩ f
 have e4:tagIs [55,49,48] f=decide (f.tag=⟨#[55,49,48]⟩):=ba_tag ⟨#[55,49,48]⟩ f
 rw[e1,e2,e3,e4]
 simp only[Bool.or_eq_true,decide_eq_true_eq,B9,List.not_mem_nil,or_false]
 constructor
 ·rintro (((h | h) | h) | h)
  ·exact .inl h
  ·exact .inr (.inl h)
  ·exact .inr (.inr (.inl h))
  ·exact .inr (.inr (.inr h))
 ·rintro (h | h | h | h)
  ·exact .inl (.inl (.inl h))
  ·exact .inl (.inl (.inr h))
  ·exact .inl (.inr h)
  ·exact .inr h
theorem beg_pre (d:UInt8) (f:Fl):begB d f=C7 f.tag.data.toList [d]:=by
 unfold begB C7
 cases f.tag.data.toList with
 | nil=>simp
 | cons b r =>
  simp[List.isPrefixOf]
  exact BEq.comm
theorem own_cells {w:A9}{B:Nat}{v:Ah}{A ws:List By} (h:w.ownsRow B 9 1 v (A.length+ws.length) (A.map Gb++ws.map Gb)):OwnT w B v (A++ws):=by
 unfold OwnT
 rw[Af,AS]
 exact h
theorem sla_own_cells {w:A9}{a:Option Ao}{c:Nat}{l:List By} (h:SLA w a c (l.map fun x=>(⟨x.toArray⟩:ByteArray))):∀ ad,a=A2 ad→∀ j u,(l.map Gb)[j]?=A2 u→w.cell? (ad.add j)=A2 u:=fun ad had j u hu=>h.cells ad had j u (by rw[Dp];exact hu)
theorem sv_one (l:List By):∀ u∈l.map Gb,u.oneCell'=true:=fun u hu=>by
 obtain⟨x,_,rfl⟩:=B3.1 hu
 rfl
theorem sla_none {w:A9}{a:Option Ao}{c:Nat}{l:List By} (h:SLA w a c (l.map fun x=>(⟨x.toArray⟩:ByteArray))):a=A4→l.length=0:=fun ha=>by
 have:=h.none ha
 rwa [At]at this
end Ix
theorem ix_Terms_3 (fs:List BS) (a:Option Ao) (c:Nat) (id ver kind:Int) (lang:ByteArray) (w:A9) (hG:G w) (h:AV w a c fs) (hM:EI fs) (hV:∀ f∈fs,Ho f) :
  Ac A3 62 #[.agg #[.int .i64 id,.int .i64 ver,.int .i64 kind,.string lang,.slice a fs.length c],.int .i64 3] w fun e w'=>∃ v,e=.returned v∧AX w' w.heap.size v (F7 fs 3)∧A6 w.heap.size w w':=by
 obtain⟨W,hW⟩:∃ W,w.alloc (.cells #[.int .i64 id,.int .i64 ver,.int .i64 kind,.string lang,.slice a fs.length c] 51)=W:=⟨_,rfl⟩
 have hB:A6 w.heap.size w W:=by rw[← hW];exact Aa _ _
 have c0:W.cell? ⟨w.heap.size,0,A4⟩=A2 (.int .i64 id):=by rw[← hW];simp
 have c1:W.cell? ⟨w.heap.size,1,A4⟩=A2 (.int .i64 ver):=by rw[← hW];simp
 have c2:W.cell? ⟨w.heap.size,2,A4⟩=A2 (.int .i64 kind):=by rw[← hW];simp
 have c3:W.cell? ⟨w.heap.size,3,A4⟩=A2 (.string lang):=by rw[← hW];simp
 have c4:W.cell? ⟨w.heap.size,4,A4⟩=A2 (.slice a fs.length c):=by rw[← hW];simp
 have hbB:=hB.size
 have hWlt:w.heap.size<W.heap.size:=by rw[← hW];simp
 have CP:Hid (Ac A3 129 #[.agg #[.int .i64 id,.int .i64 ver,.int .i64 kind,.string lang,.slice a fs.length c],.func (.func 131) #[] #[],.string ⟨#[97,120,121,122]⟩] W fun e w'=>∃ v,e=.returned v∧AX w' W.heap.size v (Cz (EL 54) [97,120,121,122] fs)∧A6 W.heap.size W w'):=J (picks_p6_c fs a c id ver kind lang (fun t=>C7 t.data.toList [54]) (EL 54) (fun f=>Ix.beg_pre 54 f) ⟨#[97,120,121,122]⟩ (by decide) W (hG.below hB) (h.below hB) hM hV (fun w' tag _=>ix_pre6_c tag w'))
 clear hG h hM hV
 go_enter MX,LZ
 go_wp2_with (go_at_call 129;((with_reducible refine CP.out.mono ?_);rintro e w1 ⟨v,rfl,hown,hb1⟩))
 go_ret
 exact⟨_,rfl,Cr hown hbB,A8 hB hb1⟩
theorem ix_Terms_4 (fs:List BS) (a:Option Ao) (c:Nat) (id ver kind:Int) (lang:ByteArray) (w:A9) (hG:G w) (h:AV w a c fs) (hM:EI fs) (hV:∀ f∈fs,Ho f) :
  Ac A3 62 #[.agg #[.int .i64 id,.int .i64 ver,.int .i64 kind,.string lang,.slice a fs.length c],.int .i64 4] w fun e w'=>∃ v,e=.returned v∧AX w' w.heap.size v (F7 fs 4)∧A6 w.heap.size w w':=by
 obtain⟨W,hW⟩:∃ W,w.alloc (.cells #[.int .i64 id,.int .i64 ver,.int .i64 kind,.string lang,.slice a fs.length c] 51)=W:=⟨_,rfl⟩
 have hB:A6 w.heap.size w W:=by rw[← hW];exact Aa _ _
 have c0:W.cell? ⟨w.heap.size,0,A4⟩=A2 (.int .i64 id):=by rw[← hW];simp
 have c1:W.cell? ⟨w.heap.size,1,A4⟩=A2 (.int .i64 ver):=by rw[← hW];simp
 have c2:W.cell? ⟨w.heap.size,2,A4⟩=A2 (.int .i64 kind):=by rw[← hW];simp
 have c3:W.cell? ⟨w.heap.size,3,A4⟩=A2 (.string lang):=by rw[← hW];simp
 have c4:W.cell? ⟨w.heap.size,4,A4⟩=A2 (.slice a fs.length c):=by rw[← hW];simp
 have hbB:=hB.size
 have hWlt:w.heap.size<W.heap.size:=by rw[← hW];simp
 have CP:Hid (Ac A3 132 #[.agg #[.int .i64 id,.int .i64 ver,.int .i64 kind,.string lang,.slice a fs.length c]] W fun e w'=>∃ v,e=.returned v∧AX w' W.heap.size v (F7 fs 4)∧A6 W.heap.size W w'):=J (ix_numbers_c fs a c id ver kind lang W (hG.below hB) (h.below hB) hM hV)
 clear hG h hM hV
 go_enter MX,LZ
 go_wp2_with (go_at_call 132;((with_reducible refine CP.out.mono ?_);rintro e w1 ⟨v,rfl,hown,hb1⟩))
 go_ret
 exact⟨_,rfl,Cr hown hbB,A8 hB hb1⟩
theorem ix_Terms_2 (fs:List BS) (a:Option Ao) (c:Nat) (id ver kind:Int) (lang:ByteArray) (w:A9) (hG:G w) (h:AV w a c fs) (hM:EI fs) (hV:∀ f∈fs,Ho f) :
  Ac A3 62 #[.agg #[.int .i64 id,.int .i64 ver,.int .i64 kind,.string lang,.slice a fs.length c],.int .i64 2] w fun e w'=>∃ v,e=.returned v∧AX w' w.heap.size v (F7 fs 2)∧A6 w.heap.size w w':=by
 obtain⟨W,hW⟩:∃ W,w.alloc (.cells #[.int .i64 id,.int .i64 ver,.int .i64 kind,.string lang,.slice a fs.length c] 51)=W:=⟨_,rfl⟩
 have hB:A6 w.heap.size w W:=by rw[← hW];exact Aa _ _
 have c0:W.cell? ⟨w.heap.size,0,A4⟩=A2 (.int .i64 id):=by rw[← hW];simp
 have c1:W.cell? ⟨w.heap.size,1,A4⟩=A2 (.int .i64 ver):=by rw[← hW];simp
 have c2:W.cell? ⟨w.heap.size,2,A4⟩=A2 (.int .i64 kind):=by rw[← hW];simp
 have c3:W.cell? ⟨w.heap.size,3,A4⟩=A2 (.string lang):=by rw[← hW];simp
 have c4:W.cell? ⟨w.heap.size,4,A4⟩=A2 (.slice a fs.length c):=by rw[← hW];simp
 have hbB:=hB.size
 have hWlt:w.heap.size<W.heap.size:=by rw[← hW];simp
 go_enter MX,LZ
 go_wp2
 clear hW
 go_region_held3 (fun w'=>A6 W.heap.size W w'∧w'.cell? ⟨w.heap.size,0,A4⟩=A2 (.int .i64 id)∧w'.cell? ⟨w.heap.size,1,A4⟩=A2 (.int .i64 ver)∧w'.cell? ⟨w.heap.size,2,A4⟩=A2 (.int .i64 kind)∧w'.cell? ⟨w.heap.size,3,A4⟩=A2 (.string lang)∧w'.cell? ⟨w.heap.size,4,A4⟩=A2 (.slice a fs.length c))
  (first | exact⟨(Ab _ _).drew,c0,c1,c2,c3,c4⟩ | (go_split_ands;exact⟨A8 ‹_› hbx,by repeat' first | exact A0 hbx ‹_› | constructor⟩) | (go_split_ands;exact⟨A8 ‹_› (Aa _ _),by repeat' first | exact A0 (Aa _ _) ‹_› | constructor⟩))
  (first
   |(go_split_ands;go_at_call 129;refine (picks_tg_c fs a c id ver kind lang bx (fun t=>Lib.containsS [⟨#[49,48,48]⟩,⟨#[49,49,48]⟩,⟨#[55,48,48]⟩,⟨#[55,49,48]⟩] t) (Ix.authB) (fun f=>Ix.auth_four f) ⟨#[97]⟩ (by decide) _ (hG.below (A8 hB ‹_›)) (h.below (A8 hB ‹_›)) hM hV (fun w' tag hb'=>ix_tag1_c tag bx [⟨#[49,48,48]⟩,⟨#[49,49,48]⟩,⟨#[55,48,48]⟩,⟨#[55,49,48]⟩] w' (by first | exact hcap.below hb' | exact (hcap.below (Aa _ _)).below hb' | exact (hcap.below ((Aa _ _).drew)).below hb') (by simp))).mono ?_;rintro e ww ⟨v,rfl,hown,hb3⟩;have hbx:=hb3)
   |(go_split_ands;go_at_call 130;refine (ix_tags_c [⟨#[49,48,48]⟩,⟨#[49,49,48]⟩,⟨#[55,48,48]⟩,⟨#[55,49,48]⟩] _ _ _ ?_).mono ?_;(exact (SLA.new (xs:=[⟨#[49,48,48]⟩,⟨#[49,49,48]⟩,⟨#[55,48,48]⟩,⟨#[55,49,48]⟩]) (by first | rfl | simp) (by first | rfl | simp) (by decide)).below (Ab _ _).drew);rintro e ww ⟨bx,rfl,hcap,hb2⟩;have hbx:=hb2))
 all_goals
  go_split_ands
  go_wp2
  go_ret
  exact⟨_,rfl,Cr hown (AK hbB (Below.size (B:=W.heap.size) ‹_›)),A8 hB ‹_›⟩
theorem ix_Terms_1 (fs:List BS) (a:Option Ao) (c:Nat) (id ver kind:Int) (lang:ByteArray) (w:A9) (hG:G w) (h:AV w a c fs) (hM:EI fs) (hV:∀ f∈fs,Ho f) :
  Ac A3 62 #[.agg #[.int .i64 id,.int .i64 ver,.int .i64 kind,.string lang,.slice a fs.length c],.int .i64 1] w fun e w'=>∃ v,e=.returned v∧AX w' w.heap.size v (F7 fs 1)∧A6 w.heap.size w w':=by
 obtain⟨W,hW⟩:∃ W,w.alloc (.cells #[.int .i64 id,.int .i64 ver,.int .i64 kind,.string lang,.slice a fs.length c] 51)=W:=⟨_,rfl⟩
 have hB:A6 w.heap.size w W:=by rw[← hW];exact Aa _ _
 have c0:W.cell? ⟨w.heap.size,0,A4⟩=A2 (.int .i64 id):=by rw[← hW];simp
 have c1:W.cell? ⟨w.heap.size,1,A4⟩=A2 (.int .i64 ver):=by rw[← hW];simp
 have c2:W.cell? ⟨w.heap.size,2,A4⟩=A2 (.int .i64 kind):=by rw[← hW];simp
 have c3:W.cell? ⟨w.heap.size,3,A4⟩=A2 (.string lang):=by rw[← hW];simp
 have c4:W.cell? ⟨w.heap.size,4,A4⟩=A2 (.slice a fs.length c):=by rw[← hW];simp
 have hbB:=hB.size
 have hWlt:w.heap.size<W.heap.size:=by rw[← hW];simp
 obtain⟨i0,hi0,hz0,hz1,hz2⟩:=BR info_str
 have HI:=J hi0;clear hi0
 have L1:=Jl (p:=AQ [50,52,53]) (codes:=[97,98,110,112]) hM
 have L2:=Jl (p:=AQ [50,52,54]) (codes:=[97,98]) hM
 have hA0:((Cz (AQ [50,52,54]) [97,98] fs).map Gb).length=(Cz (AQ [50,52,54]) [97,98] fs).length*1:=by simp
 have hA1:(Cz (AQ [50,52,53]) [97,98,110,112] fs).length+(Cz (AQ [50,52,54]) [97,98] fs).length≤Au:=by unfold Au;omega
 have hA2:((Cz (AQ [50,52,53]) [97,98,110,112] fs).length+(Cz (AQ [50,52,54]) [97,98] fs).length)*16≤140737488355328:=by omega
 go_enter MX,LZ
 go_wp2
 clear hW
 go_region_held3 (fun w'=>A6 W.heap.size W w'∧w'.cell? ⟨w.heap.size,0,A4⟩=A2 (.int .i64 id)∧w'.cell? ⟨w.heap.size,1,A4⟩=A2 (.int .i64 ver)∧w'.cell? ⟨w.heap.size,2,A4⟩=A2 (.int .i64 kind)∧w'.cell? ⟨w.heap.size,3,A4⟩=A2 (.string lang)∧w'.cell? ⟨w.heap.size,4,A4⟩=A2 (.slice a fs.length c))
  (first | exact⟨(Ab _ _).drew,c0,c1,c2,c3,c4⟩ | (go_split_ands;exact⟨A8 ‹_› hbx,by repeat' first | exact A0 hbx ‹_› | constructor⟩) | (go_split_ands;exact⟨A8 ‹_› (Aa _ _),by repeat' first | exact A0 (Aa _ _) ‹_› | constructor⟩) | (go_split_ands;exact⟨Below.grown ‹_› hg9 (Below.size (B:=W.heap.size) ‹_›) (fun j hj=>(own9.lt j hj).1),(hg9.cell_far ⟨w.heap.size,0,A4⟩ (B1 hWlt hw9) hfar).trans ‹_›,(hg9.cell_far ⟨w.heap.size,1,A4⟩ (B1 hWlt hw9) hfar).trans ‹_›,(hg9.cell_far ⟨w.heap.size,2,A4⟩ (B1 hWlt hw9) hfar).trans ‹_›,(hg9.cell_far ⟨w.heap.size,3,A4⟩ (B1 hWlt hw9) hfar).trans ‹_›,(hg9.cell_far ⟨w.heap.size,4,A4⟩ (B1 hWlt hw9) hfar).trans ‹_›⟩))
  (first
   |(go_split_ands;have hA3:=Below.size (B:=W.heap.size) (w:=W) (w':=ww) ‹_›;refine step_append_sl ww (by rfl) _ _ 26 (by rfl) W.heap.size 9 i0 _ 1 16 Bb HI.out hz0 hz1 hz2 (by rfl) (by decide) _ (Cz (AQ [50,52,53]) [97,98,110,112] fs).length _ (by rfl) (own9) sa (Cz (AQ [50,52,54]) [97,98] fs).length sc ((Cz (AQ [50,52,54]) [97,98] fs).map Gb) (by rfl) hA0 (Ix.sla_none HSL.out) (Ix.sla_own_cells HSL.out) (Ix.sv_one (Cz (AQ [50,52,54]) [97,98] fs)) hA1 hA2 hA3 ?_;intro v9 w9 hown9 hg9;have hfar:A2 w.heap.size≠_:=(fun e=>by have:=(own9.lt _ e.symm).1;omega);have hw9:=hA3)
   |(go_split_ands;go_at_call 129;refine (picks_tg_c fs a c id ver kind lang bx2 (fun t=>Lib.containsS [⟨#[50,52,54]⟩] t) (AQ [50,52,54]) (fun f=>Ix.tag_one ⟨#[50,52,54]⟩ f) ⟨#[97,98]⟩ (by decide) _ (hG.below (A8 hB ‹_›)) (h.below (A8 hB ‹_›)) hM hV (fun w' tag hb'=>ix_tag1_c tag bx2 [⟨#[50,52,54]⟩] w' (by first | exact hcap2.below hb' | exact (hcap2.below (Aa _ _)).below hb' | exact (hcap2.below ((Aa _ _).drew)).below hb') (by simp))).mono ?_;rintro e ww ⟨v2,rfl,hown2,hb5⟩;have hbx:=hb5;obtain⟨sa,sc,rfl,hsl⟩:=C9 hown2;have HSL:=J hsl;clear hsl hown2;have own9:=own_below (own_below hown1 hb34) hb5)
   |(go_split_ands;go_at_call 130;refine (ix_tags_c [⟨#[50,52,54]⟩] _ _ _ ?_).mono ?_;(first | exact (SLA.new (xs:=[⟨#[50,52,54]⟩]) rfl rfl (by decide)) | exact (Bi (SLA.new (xs:=[⟨#[50,52,54]⟩]) rfl rfl (by decide)) (Ab _ _).drew) | exact (SLA.new (xs:=[⟨#[50,52,54]⟩]) (Bn _ _).symm rfl (by decide)) | exact (Bi (SLA.new (xs:=[⟨#[50,52,54]⟩]) (Bn _ _).symm rfl (by decide)) (Ab _ _).drew) | exact (Bi (SLA.new (xs:=[⟨#[50,52,54]⟩]) rfl rfl (by decide)) hb3) | exact (Bi (Bi (SLA.new (xs:=[⟨#[50,52,54]⟩]) rfl rfl (by decide)) (Ab _ _).drew) hb3) | exact (Bi (SLA.new (xs:=[⟨#[50,52,54]⟩]) (Bn _ _).symm rfl (by decide)) hb3) | exact (Bi (Bi (SLA.new (xs:=[⟨#[50,52,54]⟩]) (Bn _ _).symm rfl (by decide)) (Ab _ _).drew) hb3) | exact (Bi (Bi (SLA.new (xs:=[⟨#[50,52,54]⟩]) rfl rfl (by decide)) hb2) hb3) | exact (Bi (Bi (Bi (SLA.new (xs:=[⟨#[50,52,54]⟩]) rfl rfl (by decide)) (Ab _ _).drew) hb2) hb3) | exact (Bi (Bi (SLA.new (xs:=[⟨#[50,52,54]⟩]) (Bn _ _).symm rfl (by decide)) hb2) hb3) | exact (Bi (Bi (Bi (SLA.new (xs:=[⟨#[50,52,54]⟩]) (Bn _ _).symm rfl (by decide)) (Ab _ _).drew) hb2) hb3) | exact (Bi (Bi (Bi (SLA.new (xs:=[⟨#[50,52,54]⟩]) rfl rfl (by decide)) (Aa _ _)) hb2) hb3) | exact (Bi (Bi (Bi (Bi (SLA.new (xs:=[⟨#[50,52,54]⟩]) rfl rfl (by decide)) (Ab _ _).drew) (Aa _ _)) hb2) hb3) | exact (Bi (Bi (Bi (SLA.new (xs:=[⟨#[50,52,54]⟩]) (Bn _ _).symm rfl (by decide)) (Aa _ _)) hb2) hb3) | exact (Bi (Bi (Bi (Bi (SLA.new (xs:=[⟨#[50,52,54]⟩]) (Bn _ _).symm rfl (by decide)) (Ab _ _).drew) (Aa _ _)) hb2) hb3) | exact (Bi (Bi (Bi (Bi (SLA.new (xs:=[⟨#[50,52,54]⟩]) rfl rfl (by decide)) (Aa _ _)) (Ab _ _).drew) hb2) hb3) | exact (Bi (Bi (Bi (Bi (Bi (SLA.new (xs:=[⟨#[50,52,54]⟩]) rfl rfl (by decide)) (Ab _ _).drew) (Aa _ _)) (Ab _ _).drew) hb2) hb3) | exact (Bi (Bi (Bi (Bi (SLA.new (xs:=[⟨#[50,52,54]⟩]) (Bn _ _).symm rfl (by decide)) (Aa _ _)) (Ab _ _).drew) hb2) hb3) | exact (Bi (Bi (Bi (Bi (Bi (SLA.new (xs:=[⟨#[50,52,54]⟩]) (Bn _ _).symm rfl (by decide)) (Ab _ _).drew) (Aa _ _)) (Ab _ _).drew) hb2) hb3));rintro e ww ⟨bx2,rfl,hcap2,hb4⟩;have hbx:=hb4;have hb34:A6 wp.heap.size wp ww:=by first | exact hb4 | exact A8 (Aa _ _) hb4 | exact A8 ((Aa _ _).drew) hb4)
   |(go_split_ands;go_at_call 129;refine (picks_tg_c fs a c id ver kind lang bx (fun t=>Lib.containsS [⟨#[50,52,53]⟩] t) (AQ [50,52,53]) (fun f=>Ix.tag_one ⟨#[50,52,53]⟩ f) ⟨#[97,98,110,112]⟩ (by decide) _ (hG.below (A8 hB ‹_›)) (h.below (A8 hB ‹_›)) hM hV (fun w' tag hb'=>ix_tag1_c tag bx [⟨#[50,52,53]⟩] w' (by first | exact hcap.below hb' | exact (hcap.below (Aa _ _)).below hb' | exact (hcap.below ((Aa _ _).drew)).below hb') (by simp))).mono ?_;rintro e ww ⟨v1,rfl,hown1,hb3⟩;have hbx:=hb3;replace hown1:=Cr hown1 (Below.size (B:=W.heap.size) ‹_›);obtain⟨wp,hwp⟩:∃ wp,wp=ww:=⟨_,rfl⟩;subst hwp)
   |(go_split_ands;go_at_call 130;refine (ix_tags_c [⟨#[50,52,53]⟩] _ _ _ ?_).mono ?_;(first | exact (SLA.new (xs:=[⟨#[50,52,53]⟩]) rfl rfl (by decide)) | exact (Bi (SLA.new (xs:=[⟨#[50,52,53]⟩]) rfl rfl (by decide)) (Ab _ _).drew) | exact (SLA.new (xs:=[⟨#[50,52,53]⟩]) (Bn _ _).symm rfl (by decide)) | exact (Bi (SLA.new (xs:=[⟨#[50,52,53]⟩]) (Bn _ _).symm rfl (by decide)) (Ab _ _).drew) | exact (Bi (SLA.new (xs:=[⟨#[50,52,53]⟩]) rfl rfl (by decide)) (Aa _ _)) | exact (Bi (Bi (SLA.new (xs:=[⟨#[50,52,53]⟩]) rfl rfl (by decide)) (Ab _ _).drew) (Aa _ _)) | exact (Bi (SLA.new (xs:=[⟨#[50,52,53]⟩]) (Bn _ _).symm rfl (by decide)) (Aa _ _)) | exact (Bi (Bi (SLA.new (xs:=[⟨#[50,52,53]⟩]) (Bn _ _).symm rfl (by decide)) (Ab _ _).drew) (Aa _ _)) | exact (Bi (Bi (SLA.new (xs:=[⟨#[50,52,53]⟩]) rfl rfl (by decide)) (Aa _ _)) (Ab _ _).drew) | exact (Bi (Bi (Bi (SLA.new (xs:=[⟨#[50,52,53]⟩]) rfl rfl (by decide)) (Ab _ _).drew) (Aa _ _)) (Ab _ _).drew) | exact (Bi (Bi (SLA.new (xs:=[⟨#[50,52,53]⟩]) (Bn _ _).symm rfl (by decide)) (Aa _ _)) (Ab _ _).drew) | exact (Bi (Bi (Bi (SLA.new (xs:=[⟨#[50,52,53]⟩]) (Bn _ _).symm rfl (by decide)) (Ab _ _).drew) (Aa _ _)) (Ab _ _).drew));rintro e ww ⟨bx,rfl,hcap,hb2⟩;have hbx:=hb2))
 all_goals
  go_split_ands
  go_wp2
  go_ret
  exact⟨_,rfl,Cr (Ix.own_cells hown9) hbB,A8 hB ‹_›⟩
theorem ix_Terms_14 (fs:List BS) (a:Option Ao) (c:Nat) (id ver kind:Int) (lang:ByteArray) (k:Nat) (h1:1≤k) (h4:k≤4) (w:A9) (hG:G w) (h:AV w a c fs) (hM:EI fs) (hV:∀ f∈fs,Ho f) :
  Ac A3 62 #[.agg #[.int .i64 id,.int .i64 ver,.int .i64 kind,.string lang,.slice a fs.length c],.int .i64 k] w fun e w'=>∃ v,e=.returned v∧AX w' w.heap.size v (F7 fs k)∧A6 w.heap.size w w':=by
 rcases (by omega:k=1∨k=2∨k=3∨k=4) with rfl | rfl | rfl | rfl
 ·exact ix_Terms_1 fs a c id ver kind lang w hG h hM hV
 ·exact ix_Terms_2 fs a c id ver kind lang w hG h hM hV
 ·exact ix_Terms_3 fs a c id ver kind lang w hG h hM hV
 ·exact ix_Terms_4 fs a c id ver kind lang w hG h hM hV
theorem ix_Terms_0 (fs:List BS) (a:Option Ao) (c:Nat) (id ver kind:Int) (lang:ByteArray) (w:A9) (hG:G w) (h:AV w a c fs) (hM:EI fs) (hV:∀ f∈fs,Ho f) :
  Ac A3 62 #[.agg #[.int .i64 id,.int .i64 ver,.int .i64 kind,.string lang,.slice a fs.length c],.int .i64 0] w fun e w'=>∃ v,e=.returned v∧AX w' w.heap.size v (Cw fs 0)∧A6 w.heap.size w w':=by
 obtain⟨W,hW⟩:∃ W,w.alloc (.cells #[.int .i64 id,.int .i64 ver,.int .i64 kind,.string lang,.slice a fs.length c] 51)=W:=⟨_,rfl⟩
 have hB:A6 w.heap.size w W:=by rw[← hW];exact Aa _ _
 have c0:W.cell? ⟨w.heap.size,0,A4⟩=A2 (.int .i64 id):=by rw[← hW];simp
 have c1:W.cell? ⟨w.heap.size,1,A4⟩=A2 (.int .i64 ver):=by rw[← hW];simp
 have c2:W.cell? ⟨w.heap.size,2,A4⟩=A2 (.int .i64 kind):=by rw[← hW];simp
 have c3:W.cell? ⟨w.heap.size,3,A4⟩=A2 (.string lang):=by rw[← hW];simp
 have c4:W.cell? ⟨w.heap.size,4,A4⟩=A2 (.slice a fs.length c):=by rw[← hW];simp
 have hbB:=hB.size
 have hWlt:w.heap.size<W.heap.size:=by rw[← hW];simp
 obtain⟨i0,hi0,hz0,hz1,hz2⟩:=BR info_str
 have HI:=J hi0;clear hi0
 have HS:=J (h.below hB)
 have CT:Hid (∀ (k:Nat) w',1≤k→k≤4→A6 W.heap.size W w'→Ac A3 62 #[.agg #[.int .i64 id,.int .i64 ver,.int .i64 kind,.string lang,.slice a fs.length c],.int .i64 k] w' fun e w''=>∃ v,e=.returned v∧AX w'' w'.heap.size v (F7 fs k)∧A6 w'.heap.size w' w''):=J (fun k w' h1 h4 hb=>ix_Terms_14 fs a c id ver kind lang k h1 h4 w' (hG.below (A8 hB hb)) (HS.out.below hb) hM hV)
 have CB:Hid (∀ w',A6 W.heap.size W w'→Ac A3 129 #[.agg #[.int .i64 id,.int .i64 ver,.int .i64 kind,.string lang,.slice a fs.length c],.func (.func 133) #[] #[],.string ⟨#[97]⟩] w' fun e w''=>∃ v,e=.returned v∧AX w'' w'.heap.size v (Cz (EL 53) [97] fs)∧A6 w'.heap.size w' w''):=J (fun w' hb=>picks_p5_c fs a c id ver kind lang (fun t=>C7 t.data.toList [53]) (EL 53) (fun f=>Ix.beg_pre 53 f) ⟨#[97]⟩ (by decide) w' (hG.below (A8 hB hb)) (HS.out.below hb) hM hV (fun w' tag _=>ix_pre5_c tag w'))
 have HM:=J hM
 clear hG h hM hV
 go_enter MX,LZ
 go_wp2
 clear hW
 go_loopw [5,6] (fun v i wr=>∃ (k:Nat),k≤4∧i=.int .i64 (k+1)∧AX wr W.heap.size v (K0 fs k)∧A6 W.heap.size W wr) (fun _ i _=>5 - (Ad i).toNat)
 case atStart=>exact⟨0,Ae _,by go_num,AH _ _ _ _,Ab _ _⟩
 case round =>
  obtain⟨k,hk,rfl,hown,hb⟩:=hrel
  have hbs:=hb.size
  replace c0:=A0 hb c0
  replace c1:=A0 hb c1
  replace c2:=A0 hb c2
  replace c3:=A0 hb c3
  replace c4:=A0 hb c4
  have hl:=Ix.termsTo_len HM.out k
  by_cases hlt:k<4
  ·have hl2:=Ix.term_len HM.out (k+1)
   have HT:=J (Ix.termsTo_succ fs k)
   have hk1:((k:Int)+1)≤4:=by omega
   have hcast:((k+1:Nat):Int)=(k:Int)+1:=by omega
   have CK:Hid (∀ w',A6 W.heap.size W w'→Ac A3 62 #[.agg #[.int .i64 id,.int .i64 ver,.int .i64 kind,.string lang,.slice a fs.length c],.int .i64 ((k:Int)+1)] w' fun e w''=>∃ v,e=.returned v∧AX w'' w'.heap.size v (F7 fs (k+1))∧A6 w'.heap.size w' w''):=J (fun w' hb=>by
    have h9:=CT.out (k+1) w' (by omega) (by omega) hb
    rw[hcast]at h9
    exact h9)
   clear hcast
   go_wp2_with (first
    |(at_builtin;go_must (refine wpList_append_sl rfl _ _ 26 rfl W.heap.size 9 i0 _ 1 16 Bb HI.out hz0 hz1 hz2 rfl (by decide) _ (K0 fs k).length _ rfl own2 va (F7 fs (k+1)).length vc ((F7 fs (k+1)).map Gb) rfl (by simp) (Ix.sla_none HSV.out) (Ix.sla_own_cells HSV.out) (Ix.sv_one _) (by unfold Au;omega) (by omega) (by omega) ?_);intro v7 w7 hown7 hg7 hnil7)
    |(go_at_call 62;((with_reducible refine (CK.out _ hb).mono ?_);rintro e w2 ⟨v2,rfl,hown2,hb2⟩;obtain⟨va,vc,rfl,hsv⟩:=C9 hown2;have HSV:=J hsv;clear hsv hown2;have s2:=hb2.size;have own2:=own_below hown hb2)))
   have hb7:A6 W.heap.size W w7:=(A8 hb hb2).grown hg7 (by omega) (fun i hi=>(own2.lt i hi).1)
   go_roundw
   case rel=>exact⟨k+1,by omega,by go_num,by rw[HT.out];exact Ix.own_cells hown7,hb7⟩
   case measure=>simp[Ad];omega
  ·obtain rfl:k=4:=by omega
   have hl2:=Jl (p:=EL 53) (codes:=[97]) HM.out
   have HT:=J (Ix.terms_zero fs)
   clear hlt hk
   go_wp2_with (first
    |(at_builtin;go_must (refine wpList_append_sl rfl _ _ 26 rfl W.heap.size 9 i0 _ 1 16 Bb HI.out hz0 hz1 hz2 rfl (by decide) _ (K0 fs 4).length _ rfl own2 va (Cz (EL 53) [97] fs).length vc ((Cz (EL 53) [97] fs).map Gb) rfl (by simp) (Ix.sla_none HSV.out) (Ix.sla_own_cells HSV.out) (Ix.sv_one _) (by unfold Au;omega) (by omega) (by omega) ?_);intro v7 w7 hown7 hg7 hnil7)
    |(go_at_call 129;((with_reducible refine (CB.out _ hb).mono ?_);rintro e w2 ⟨v2,rfl,hown2,hb2⟩;obtain⟨va,vc,rfl,hsv⟩:=C9 hown2;have HSV:=J hsv;clear hsv hown2;have s2:=hb2.size;have own2:=own_below hown hb2)))
   have hb7:A6 W.heap.size W w7:=(A8 hb hb2).grown hg7 (by omega) (fun i hi=>(own2.lt i hi).1)
   go_ret
   exact⟨_,rfl,by rw[HT.out];exact Cr (Ix.own_cells hown7) hbB,A8 hB hb7⟩
theorem ix_Terms_x (fs:List BS) (a:Option Ao) (c:Nat) (id ver kind:Int) (lang:ByteArray) (x:Int) (hx:x<0∨4<x) (w:A9) :
  Ac A3 62 #[.agg #[.int .i64 id,.int .i64 ver,.int .i64 kind,.string lang,.slice a fs.length c],.int .i64 x] w fun e w'=>∃ v,e=.returned v∧AX w' w.heap.size v []∧A6 w.heap.size w w':=by
 obtain⟨W,hW⟩:∃ W,w.alloc (.cells #[.int .i64 id,.int .i64 ver,.int .i64 kind,.string lang,.slice a fs.length c] 51)=W:=⟨_,rfl⟩
 have hB:A6 w.heap.size w W:=by rw[← hW];exact Aa _ _
 have c0:W.cell? ⟨w.heap.size,0,A4⟩=A2 (.int .i64 id):=by rw[← hW];simp
 have c1:W.cell? ⟨w.heap.size,1,A4⟩=A2 (.int .i64 ver):=by rw[← hW];simp
 have c2:W.cell? ⟨w.heap.size,2,A4⟩=A2 (.int .i64 kind):=by rw[← hW];simp
 have c3:W.cell? ⟨w.heap.size,3,A4⟩=A2 (.string lang):=by rw[← hW];simp
 have c4:W.cell? ⟨w.heap.size,4,A4⟩=A2 (.slice a fs.length c):=by rw[← hW];simp
 have hbB:=hB.size
 have hWlt:w.heap.size<W.heap.size:=by rw[← hW];simp
 have t0:(x == 0)=false:=by simp;omega
 have t1:(x == 1)=false:=by simp;omega
 have t2:(x == 2)=false:=by simp;omega
 have t3:(x == 3)=false:=by simp;omega
 have t4:(x == 4)=false:=by simp;omega
 clear hx
 go_enter MX,LZ
 go_wp2
 go_ret
 exact⟨_,rfl,AH _ _ _ _,hB⟩
theorem ix_Terms_c (fs:List BS) (a:Option Ao) (c:Nat) (id ver kind:Int) (lang:ByteArray) (x:Int) (w:A9) (hG:G w) (h:AV w a c fs) (hM:EI fs) (hV:∀ f∈fs,Ho f) :
  Ac A3 62 #[.agg #[.int .i64 id,.int .i64 ver,.int .i64 kind,.string lang,.slice a fs.length c],.int .i64 x] w fun e w'=>∃ v,e=.returned v∧AX w' w.heap.size v (Cw fs x)∧A6 w.heap.size w w':=by
 by_cases h0:x=0
 ·subst h0
  exact ix_Terms_0 fs a c id ver kind lang w hG h hM hV
 ·unfold Cw
  rw[if_neg h0]
  by_cases h4:1≤x∧x≤4
  ·rw[if_pos h4]
   obtain⟨k,rfl⟩:∃ k:Nat,x=k:=⟨x.toNat,by omega⟩
   exact ix_Terms_14 fs a c id ver kind lang k (by omega) (by omega) w hG h hM hV
  ·rw[if_neg h4]
   exact ix_Terms_x fs a c id ver kind lang x (by omega) w
section
open Go.Sort (grow)
namespace Ix
def cmpB (x y:By):Int:=if x<y then -1 else if y<x then 1 else 0
def orI (a b c:Int):Int:=if a≠0 then a else if b≠0 then b else c
def cmpP (p q:Post):Int:=orI (ER p.fld q.fld) (cmpB p.word q.word) (ER p.id q.id)
theorem cmpP_lt (p q:Post):decide (cmpP p q<0)=ltK p q:=by
 rw[Bp,decide_eq_true_eq,ltK_iff]
 unfold cmpP orI ER cmpB
 by_cases h1:p.fld<q.fld
 ·simp[h1]
 ·by_cases h2:p.fld > q.fld
  ·have h3:¬ p.fld=q.fld:=by omega
   simp[h1,h2,h3]
  ·have h3:p.fld=q.fld:=by omega
   by_cases h4:p.word<q.word
   ·simp[h3,h4]
   ·by_cases h5:q.word<p.word
    ·have h6:¬ p.word=q.word:=fun e=>by rw[e]at h5;exact GA _ h5
     simp[h3,h4,h5,h6]
    ·have h6:p.word=q.word:=by
      by_cases e:p.word=q.word
      ·exact e
      ·exact absurd (ltB_tri _ _ h4 e) h5
     by_cases h7:p.id<q.id
     ·simp[h3,h6,h7,GA]
     ·by_cases h8:p.id > q.id
      ·simp[h3,h6,h7,h8,GA]
      ·simp[h3,h6,h7,h8,GA]
theorem grow_three {w W wq:A9}{o1 o2:Obj} (h:(w.alloc o1).alloc o2=W) (h2:W.drew=wq) (o:Obj):∃ n os,wq.alloc o=grow (w.drewN n) os:=by
 refine⟨1,#[o1]++#[o2]++#[o],?_⟩
 rw[← h2,← h,Ns,Ns,Ns,← Go.Sort.grow_grow,← Go.Sort.grow_grow]
 rfl
end Ix
theorem isNaN_str_c (x:ByteArray) (w:A9):Ac A3 264 #[.string x] w fun e w'=>e=.returned (.bool false)∧w'=w:=by
 go_enter Tryz.func264,Tryz.ntmps264
 go_wp2
 go_ret
 exact⟨rfl,rfl⟩
theorem cmp_str_c (x y:Ix.By) (w:A9):Ac A3 202 #[.string ⟨x.toArray⟩,.string ⟨y.toArray⟩] w fun e w'=>e=.returned (.int .i64 (Ix.cmpB x y))∧w'=w:=by
 have h1:Op.bytesLess x y=decide (x<y):=Go.Proofs.bytesLess_eq x y
 have h2:Op.bytesLess y x=decide (y<x):=Go.Proofs.bytesLess_eq y x
 by_cases g1:x<y
 ·have HR:Hid (Ix.cmpB x y=-1):=J (if_pos g1)
  rw[decide_eq_true g1]at h1
  clear g1
  go_enter Tryz.func202,Tryz.ntmps202
  go_wp2_with (go_at_call 264;refine (isNaN_str_c _ _).mono ?_;rintro e w' ⟨rfl,rfl⟩)
  go_ret
  exact⟨by rw[HR.out];rfl,rfl⟩
 ·rw[decide_eq_false g1]at h1
  by_cases g2:y<x
  ·have HR:Hid (Ix.cmpB x y=1):=J (by unfold Ix.cmpB;rw[if_neg g1,if_pos g2])
   rw[decide_eq_true g2]at h2
   have h3:(x == y)=false:=by rw[beq_eq_false_iff_ne];intro e;rw[e]at g2;exact GA _ g2
   clear g1 g2
   go_enter Tryz.func202,Tryz.ntmps202
   go_wp2_with (go_at_call 264;refine (isNaN_str_c _ _).mono ?_;rintro e w' ⟨rfl,rfl⟩)
   go_ret
   exact⟨by rw[HR.out];rfl,rfl⟩
  ·have HR:Hid (Ix.cmpB x y=0):=J (by unfold Ix.cmpB;rw[if_neg g1,if_neg g2])
   rw[decide_eq_false g2]at h2
   have h3:(x == y)=true:=by
    rw[beq_iff_eq]
    by_cases e:x=y
    ·exact e
    ·exact absurd (Ix.ltB_tri _ _ g1 e) g2
   clear g1 g2
   go_enter Tryz.func202,Tryz.ntmps202
   go_wp2_with (go_at_call 264;refine (isNaN_str_c _ _).mono ?_;rintro e w' ⟨rfl,rfl⟩)
   go_ret
   exact⟨by rw[HR.out];rfl,rfl⟩
theorem cmp_or_c (a b c:Int) (X:Nat) (w:A9) (c0:w.cell? ⟨X,0,A4⟩=A2 (.int .i64 a)) (c1:w.cell? ⟨X,1,A4⟩=A2 (.int .i64 b)) (c2:w.cell? ⟨X,2,A4⟩=A2 (.int .i64 c)) :
  Ac A3 50 #[.slice (A2 ⟨X,0,A4⟩) 3 3] w fun e w'=>e=.returned (.int .i64 (Ix.orI a b c))∧w'=w:=by
 go_enter Tryz.func50,Tryz.ntmps50
 go_wp2
 go_loop [8] (fun i=>∃ (k:Nat),k≤3∧i=.int .i64 k∧(1≤k→a=0)∧(2≤k→b=0)∧(3≤k→c=0)) (fun i=>3 - (Ad i).toNat)
 case atStart=>exact⟨0,by omega,by go_num,fun h=>by omega,fun h=>by omega,fun h=>by omega⟩
 case round =>
  obtain⟨k,hk,rfl,ha,hb,hc⟩:=hrel
  rcases (by omega:k=0∨k=1∨k=2∨k=3) with rfl | rfl | rfl | rfl
  ·cases hq:(a != 0) with
   | true =>
    have HR:Hid (Ix.orI a b c=a):=J (if_pos (by simpa using hq))
    clear ha hb hc
    go_wp2
    go_ret
    exact⟨by rw[HR.out];rfl,rfl⟩
   | false =>
    have ha0:=J (show a=0 by simpa using hq)
    clear ha hb hc
    go_wp2
    go_round
    case rel=>exact⟨1,by omega,by go_num,fun _=>ha0.out,fun h=>by omega,fun h=>by omega⟩
    case measure=>simp[Ad]
  ·have ha0:=J (ha (by omega))
   clear ha hb hc
   cases hq:(b != 0) with
   | true =>
    have HR:Hid (Ix.orI a b c=b):=J (by unfold Ix.orI;rw[if_neg (by rw[ha0.out];simp),if_pos (by simpa using hq)])
    go_wp2
    go_ret
    exact⟨by rw[HR.out];rfl,rfl⟩
   | false =>
    have hb0:=J (show b=0 by simpa using hq)
    go_wp2
    go_round
    case rel=>exact⟨2,by omega,by go_num,fun _=>ha0.out,fun _=>hb0.out,fun h=>by omega⟩
    case measure=>simp[Ad]
  ·have ha0:=J (ha (by omega))
   have hb0:=J (hb (by omega))
   clear ha hb hc
   have HR:Hid (Ix.orI a b c=c):=J (by unfold Ix.orI;rw[if_neg (by rw[ha0.out];simp),if_neg (by rw[hb0.out];simp)])
   cases hq:(c != 0) with
   | true =>
    go_wp2
    go_ret
    exact⟨by rw[HR.out];rfl,rfl⟩
   | false =>
    have hc0:=J (show c=0 by simpa using hq)
    go_wp2
    go_round
    case rel=>exact⟨3,by omega,by go_num,fun _=>ha0.out,fun _=>hb0.out,fun _=>hc0.out⟩
    case measure=>simp[Ad]
  ·have ha0:=J (ha (by omega))
   have hb0:=J (hb (by omega))
   have hc0:=J (hc (by omega))
   clear ha hb hc
   have HR:Hid (Ix.orI a b c=0):=J (by unfold Ix.orI;rw[ha0.out,hb0.out,hc0.out];rfl)
   go_wp2
   go_ret
   exact⟨by rw[HR.out];rfl,rfl⟩
theorem ix_order_c (p q:Cx) (w:A9):Ac A3 121 #[.agg #[.int .i64 p.1.fld,.string ⟨p.1.word.toArray⟩,.int .i64 p.1.id,.slice p.2.1 p.1.at_.length p.2.2],.agg #[.int .i64 q.1.fld,.string ⟨q.1.word.toArray⟩,.int .i64 q.1.id,.slice q.2.1 q.1.at_.length q.2.2]] w fun e w'=>e=.returned (.int .i64 (Ix.cmpP p.1 q.1))∧∃ n os,w'=grow (w.drewN n) os:=by
 obtain⟨W,hW⟩:∃ W,(w.alloc (.cells #[.int .i64 p.1.fld,.string ⟨p.1.word.toArray⟩,.int .i64 p.1.id,.slice p.2.1 p.1.at_.length p.2.2] 100)).alloc (.cells #[.int .i64 q.1.fld,.string ⟨q.1.word.toArray⟩,.int .i64 q.1.id,.slice q.2.1 q.1.at_.length q.2.2] 100)=W:=⟨_,rfl⟩
 have HW:=J hW
 have c0:W.cell? ⟨w.heap.size,0,A4⟩=A2 (.int .i64 p.1.fld):=by rw[← hW];simp
 have c1:W.cell? ⟨w.heap.size,1,A4⟩=A2 (.string ⟨p.1.word.toArray⟩):=by rw[← hW];simp
 have c2:W.cell? ⟨w.heap.size,2,A4⟩=A2 (.int .i64 p.1.id):=by rw[← hW];simp
 have d0:W.cell? ⟨w.heap.size+1,0,A4⟩=A2 (.int .i64 q.1.fld):=by rw[← hW];simp
 have d1:W.cell? ⟨w.heap.size+1,1,A4⟩=A2 (.string ⟨q.1.word.toArray⟩):=by rw[← hW];simp
 have d2:W.cell? ⟨w.heap.size+1,2,A4⟩=A2 (.int .i64 q.1.id):=by rw[← hW];simp
 go_enter Tryz.func121,Tryz.ntmps121
 go_wp2
 clear hW
 refine wp_region_still_tail 15 (by kernel_rfl) (by kernel_rfl) ?_
 simp only[List.take_succ_cons,List.take_zero,List.drop_succ_cons,List.drop_zero]
 repeat still_step
 still_call (Tryz.cmp_Compare_int p.1.fld q.1.fld _)
 repeat still_step
 still_call (cmp_str_c p.1.word q.1.word _)
 repeat still_step
 still_call (Tryz.cmp_Compare_int p.1.id q.1.id _)
 try refine wpStill_nil ?_
 change EU _ _ _ _ _ W.drew
 obtain⟨wq,hwq⟩:∃ wq,W.drew=wq:=⟨_,rfl⟩
 have HQ:=J hwq
 rw[hwq]
 clear hwq
 go_wp2_with (go_at_call 50;refine (cmp_or_c (ER p.1.fld q.1.fld) (Ix.cmpB p.1.word q.1.word) (ER p.1.id q.1.id) wq.heap.size _ (by simp) (by simp) (by simp)).mono ?_;rintro e w' ⟨rfl,rfl⟩)
 go_ret
 exact⟨rfl,Ix.grow_three HW.out HQ.out _⟩
theorem ix_order_enters:∀ args w,(callFunc 121 args).run A3 w=.ok (.enter 121 args) w:=enters_of Tryz.func121 (by kernel_rfl) rfl
instance:Inhabited Cx:=⟨(⟨0,[],0,[]⟩,A4,0)⟩
namespace Ix
open Go.Sort (putRow putCells mapBlock onCells flatK)
theorem ltK_congr {x y z:Post} (h:sameK x y):ltK x z=ltK y z:=by
 unfold ltK
 rw[h.1,h.2.1,h.2.2]
theorem swoP:Go.Sort.SWO (fun x y:PT=>ltK x.1 y.1) where
 irrefl x:=ltK_irrefl x.1
 trans x y z h1 h2:=ltK_trans h1 h2
 ntrans x y z h1 h2:=by
  by_cases hs:sameK x.1 y.1
  ·rw[ltK_congr hs];exact h2
  ·have h3:=ltK_tri h1 hs
   rw[Bool.eq_false_iff]
   intro h4
   have h5:=ltK_trans h3 h4
   rw[h2]at h5
   cases h5
theorem flat_list (d:Array PT):(flatK encP 4 d).toList=d.toList.flatMap encP:=by
 apply Kr
 intro t
 rcases Cv t (d.size*4) with h | h
 ·have hk:t / 4<d.toList.length:=by rw[JM];omega
  obtain⟨x,hx⟩:∃ x,d.toList[t / 4]?=A2 x:=⟨_,A7 hk⟩
  have h1:=Br.flat_at encP 4 encP_len d.toList (t / 4) (t % 4) x hx (by omega)
  rw[show t / 4*4+t % 4=t by omega]at h1
  rw[h1,DX,Ji (by simpa using h),← getElem!_pos (flatK encP 4 d) t (by simpa using h),Go.Sort.get_flatK _ _ _ _ h]
  have hx2:d[t / 4]! = x:=by
   rw[DX]at hx
   rw[getElem!_def,hx]
  rw[hx2]
  have h3:t % 4<(encP x).length:=by rw[encP_len];omega
  rw[getElem!_pos (encP x) (t % 4) h3,A7 h3]
 ·rw[Ez (by rw[JM,Go.Sort.size_flatK];exact h),Ez (by rw[Br.flat_len encP 4 encP_len,JM];exact h)]
theorem holds_of_rows {w:A9}{g:Nat}{cur:Array Ah}{e:Bd}{T:List PT} (hb:w.heap[g]?=A2 (.cells cur e (0,0))) (ht:cur.toList.take (T.length*4)=T.flatMap encP):Go.Sort.HoldsK encP 4 w g 0 T.toArray:=by
 intro j hj
 have hj':j<T.length*4:=by simpa using hj
 refine⟨?_,by simp[World.frozen?,hb]⟩
 have h1:(cur.toList.take (T.length*4))[j]?=(T.flatMap encP)[j]?:=by rw[ht]
 rw[ET hj']at h1
 simp only[World.cell?,hb,Nat.zero_add]
 have h2:=flat_list T.toArray
 simp only[]at h2
 rw[← h2,DX,DX]at h1
 rw[h1,Ji hj,getElem!_pos _ j hj]
 rfl
theorem heap_sortedP {w:A9}{g n:Nat}{os:Array Obj}{cur:Array Ah}{e:Bd}{fr:Nat × Nat} (F:Array Ah) (hb:w.heap[g]?=A2 (.cells cur e fr)) :
  (grow (putRow id (N9 w n) g 0 F) os).heap[g]?=A2 (.cells (putCells id 0 F cur) e fr):=by
 have hg:g<w.heap.size:=(AN.1 hb).1
 rw[Go.Sort.heap_grow_old _ _ (by simpa using hg)]
 simp[putRow,mapBlock,N9,EE,hb,onCells]
theorem grownBy_sortedP {w:A9}{g n:Nat}{os:Array Obj} (F:Array Ah):w.grownBy (grow (putRow id (N9 w n) g 0 F) os) (A2 g):=by
 refine⟨rfl,rfl,rfl,by simp,fun k hk hne=>?_⟩
 rw[Go.Sort.heap_grow_old _ _ (by simpa using hk)]
 have:g≠k:=fun e=>hne (by rw[e])
 simp[putRow,mapBlock,N9,EE,this]
theorem take_putCellsP (cur:Array Ah) (F:Array Ah) (h:F.size≤cur.size):(putCells id 0 F cur).toList.take F.size=F.toList:=by
 apply Kr
 intro j
 by_cases hj:j<F.size
 ·rw[ET hj,DX]
  simp[putCells,hj,show j<cur.size by omega]
 ·rw[List.getElem?_take_eq_none (by omega),Ez (by simp;omega)]
theorem ownsRow_sortedP {w:A9}{base g cap n m:Nat}{e:Bd}{os:Array Obj}{cur:Array Ah}{F:Array Ah} (hl:F.size=m*4) (hbase:base≤g) (hb:w.heap[g]?=A2 (.cells cur e (0,0)))
  (h1:m≤cap) (h2:cap≤Au) (h3:cur.size=cap*4) :
  (grow (putRow id (N9 w n) g 0 F) os).ownsRow base e 4 (.slice (A2 ⟨g,0,A4⟩) m cap) m F.toList :=
 ⟨by simp[hl],.inr ⟨g,cap,_,rfl,hbase,heap_sortedP _ hb,h1,h2,by simp[putCells,h3],by rw[← hl];exact take_putCellsP cur F (by omega)⟩⟩
end Ix
theorem ix_sort_c (blk cap:Nat) (d:Array Cx) (w:A9) (hH:Go.Sort.HoldsK Il 4 w blk 0 d) (hblk:blk<w.heap.size) (hsz:d.size<1000000000000) :
  Ac A3 120 #[.slice (A2 ⟨blk,0,A4⟩) d.size cap,.func (.func 121) #[] #[]] w fun e w'=>e=.returned (.tuple #[])∧∃ d' n os,Go.Sort.PermIn 0 d.size d d'∧Go.Sort.SortedIn (fun x y:Cx=>Ix.ltK x.1 y.1) 0 d.size d'∧w'=sortWorldK Il 4 w blk 0 n d' os:=by
 have hlt:ltOf (fun x y:Cx=>Ix.cmpP x.1 y.1)=fun x y:Cx=>Ix.ltK x.1 y.1:=by funext x y;exact Ix.cmpP_lt x.1 y.1
 have h:=AnyQ.slices_SortFunc Tryz.sortPost 4 Tryz.isAgg100 Tryz.sizeOf100 Il Ix.encP_len Ix.p_one (fun x y:Cx=>Ix.cmpP x.1 y.1) (by rw[hlt];exact Ix.swoP) 121 #[] blk 0 cap d w ix_order_enters (fun _ _ _ _ x y=>ix_order_c x y _) hH hblk (by omega)
 rw[hlt]at h
 exact h
theorem ix_sorted_c {v:Ah}{T:List Cx}{B:Nat}{w:A9} (h:Mg w B v T) (hl:T.length<1000000000000) :
  Ac A3 120 #[v,.func (.func 121) #[] #[]] w fun e w'=>e=.returned (.tuple #[])∧∃ S:List Cx,S.Perm T∧(S.Pairwise fun x y=>Ix.ltK y.1 x.1=false)∧Mg w' B v S∧w.grownBy w' v.ownBlock:=by
 rcases h.2 with⟨rfl,h0⟩ | ⟨g,cap,cur,rfl,hbase,hb,h1,h2,h3,h4⟩
 ·have hnil:=Aw h0
  subst hnil
  refine (AnyF.slices_SortFunc_none Tryz.sortPost A4 0 (.func (.func 121) #[] #[]) w).mono fun e w' ⟨he,hw⟩=>?_
  subst hw
  exact⟨he,[],List.Perm.refl _,List.Pairwise.nil,AH _ _ _ _,⟨rfl,rfl,rfl,An _,fun _ _ _=>rfl⟩⟩
 ·have hH:=Ix.holds_of_rows hb h4
  refine (ix_sort_c g cap T.toArray w hH (AN.1 hb).1 (by simpa using hl)).mono fun e w' ⟨he,d',n,os,hp,hs,hw⟩=>?_
  subst hw
  have hsz:d'.size=T.length:=by have:=hp.1;simpa using this
  have hperm:d'.toList.Perm T:=by
   have h5:=hp.2.2
   have e1:d'.extract 0 T.toArray.size=d':=by simp[← hsz]
   have e2:T.toArray.extract 0 T.toArray.size=T.toArray:=by simp
   rw[e1,e2]at h5
   exact h5
  refine⟨he,d'.toList,hperm,?_,?_,Ix.grownBy_sortedP _⟩
  ·rw[List.pairwise_iff_getElem]
   intro i j hi hj hij
   have h6:=hs i j (Ae _) hij (by simp;rw[← hsz];simpa using hj)
   rw[getElem!_pos d' i (by simpa using hi),getElem!_pos d' j (by simpa using hj)]at h6
   exact h6
  ·have h7:=Ix.ownsRow_sortedP (n:=n) (os:=os) (F:=Go.Sort.flatK Il 4 d') (m:=T.length) (by rw[Go.Sort.size_flatK,hsz]) hbase hb h1 h2 h3
   rw[Ix.flat_list]at h7
   unfold Mg
   rw[show d'.toList.length=T.length from by rw[JM,hsz]]
   exact h7
end
namespace Ix
open Rc
def intE (v:Ah):Option (C4 Unit × List MemPlace):=match v with
 | .int .i64 n=>A2 (.lit (.int .i64 n),[])
 | _=>A4
theorem intE_some {v:Ah}{n:Int}{ps:List MemPlace} (h:intE v=A2 (.lit (.int .i64 n),ps)):v=.int .i64 n:=by
 unfold intE at h
 split at h
 ·simp at h
  rw[h.1]
 ·cases h
structure SMap (w:A9) (M n:Nat) (f:By→Option Nat):Prop where
 d:∃ D:C4 Unit,w.ownsMap A3 9 intE M n D∧∀ x:By,x.length≤9223372036854775807→Maps.has D (.string x)=(f x).isSome∧D.atKey (.string x) (.lit (.int .i64 0))=.lit (.int .i64 (match f x with | some k=>(k:Int) | none=>0))
theorem skey:Maps.Keyed A3 9:=Maps.string_keyed B6
theorem szero (w:A9):(zeroValue 3).run A3 w=.ok (.int .i64 0) w:=by kernel_rfl
theorem SMap.of_block {w w':A9}{M n:Nat}{f:By→Option Nat} (h:SMap w M n f) (hb:w'.heap[M]?=w.heap[M]?):SMap w' M n f:=by
 obtain⟨D,⟨es,clock,h1,h2⟩,h3⟩:=h.d
 exact⟨D,⟨es,clock,hb.trans h1,h2⟩,h3⟩
theorem SMap.lt {w:A9}{M n:Nat}{f:By→Option Nat} (h:SMap w M n f):M<w.heap.size:=by
 obtain⟨D,h1,_⟩:=h.d
 exact h1.lt
theorem SMap.obj {w:A9}{M n:Nat}{f:By→Option Nat} (h:SMap w M n f):∃ es c,w.heap[M]?=A2 (.map es c):=by
 obtain⟨D,⟨es,clock,h1,_⟩,_⟩:=h.d
 exact⟨es,clock,h1⟩
theorem SMap.made (w:A9):SMap (w.alloc (.map #[] 0)) w.heap.size 0 (fun _=>A4) :=
 ⟨⟨.map [],World.ownsMap_made _ _ _ _,fun _ _=>⟨rfl,rfl⟩⟩⟩
section
variable {w : A9} {ops : Array GW} {rest : List GW} {o : GW} {a : Act} {Q : Exit → Act → A9 → Prop} {M n : Nat} {f : By → Option Nat}
theorem keyS (x:By) (h:x.length≤9223372036854775807):keyOf A3 9 (.string ⟨x.toArray⟩)=A2 (.string x) :=
 Go.WideMaps.keyOf_string_mk B6 (by unfold Au;show x.toArray.size≤_;simpa using h)
theorem smap_look {x:By} (hp:SMap w M n f) (hw:x.length≤9223372036854775807) (hg:o.guard=A4) (m k:JS) (hop:o.op=Op.lookup 207 m k true)
  (hm:a.eval m=.map (A2 M)) (hx:a.eval k=.string ⟨x.toArray⟩) (hK:EU A3 ops Q rest (a.put o.dst (.tuple #[.int .i64 (match f x with | some k=>(k:Int) | none=>0),.bool (f x).isSome])) w):EU A3 ops Q (o::rest) a w:=by
 obtain⟨D,h1,h2⟩:=hp.d
 obtain⟨h3,h4⟩:=h2 x hw
 refine wpList_lookup_own_ok w hg m k _ hop 9 3 skey Tryz.underlying207 intE (szero w) (.lit (.int .i64 0)) [] rfl M n D hm h1 _ _ hx (keyS x hw) fun v ps hv=>?_
 rw[h4]at hv
 obtain rfl:=intE_some hv
 rw[h3]
 exact hK
theorem smap_put {x:By}{k:Nat} (hp:SMap w M n f) (hn:n<Au) (hw:x.length≤9223372036854775807) (hg:o.guard=A4) (m y v:JS) (hop:o.op=Op.mapUpdate 207 m y v)
  (hm:a.eval m=.map (A2 M)) (hx:a.eval y=.string ⟨x.toArray⟩) (hv:a.eval v=.int .i64 k)
  (hK:∀ w',SMap w' M (n+1) (fun y=>if y=x then A2 k else f y)→w.grownBy w' (A2 M)→EU A3 ops Q rest (a.put o.dst undef) w'):EU A3 ops Q (o::rest) a w:=by
 obtain⟨D,h1,h2⟩:=hp.d
 refine NN w hg m y v _ hop 9 3 skey Tryz.underlying207 intE M n D hm h1 hn _ _ _ hx hv (keyS x hw) (.lit (.int .i64 k)) [] rfl fun w' h3 h4=>?_
 refine hK w' ⟨⟨_,h3,fun y hy=>?_⟩⟩ h4
 have ht:=(h1.tidy skey).isMap
 by_cases hyb:y=x
 ·subst hyb
  have hk:Lx (Lit.string y):=trivial
  rw[if_pos rfl,Maps.has_put_same ht hk,Maps.atKey_put_same ht hk]
  exact⟨rfl,rfl⟩
 ·have hne:Lit.string y≠Lit.string x:=fun e=>hyb (by injection e)
  rw[if_neg hyb,Maps.has_put_other hne,NO hne]
  exact h2 y hy
end
def posF:List By→By→Option Nat
 | [],_=>A4
 | y::r,x=>if y=x then A2 0 else (posF r x).map (·+1)
theorem posF_none:∀ {l:List By}{x:By},x ∉ l→posF l x=A4
 | [],_,_=>rfl
 | y::r,x,h=>by
  rw[B9,not_or]at h
  unfold posF
  rw[if_neg (fun e=>h.1 e.symm),posF_none h.2]
  rfl
theorem posF_some:∀ {l:List By}{x:By},x∈l→∃ k,posF l x=A2 k∧l[k]?=A2 x
 | [],_,h=>by cases h
 | y::r,x,h=>by
  unfold posF
  by_cases e:y=x
  ·exact⟨0,by rw[if_pos e],by simp[e]⟩
  ·obtain⟨k,h1,h2⟩:=posF_some (l:=r) (x:=x) (by
    rcases B9.1 h with h | h
    ·exact absurd h.symm e
    ·exact h)
   exact⟨k+1,by rw[if_neg e,h1];rfl,by simpa using h2⟩
theorem posF_snoc:∀ {l:List By}{y:By} (x:By),y ∉ l→posF (l++[y]) x=if x=y then A2 l.length else posF l x
 | [],y,x,_=>by
  by_cases e:x=y
  ·rw[if_pos e,e];simp[posF]
  ·have e2:¬ y=x:=fun e2=>e e2.symm
   rw[if_neg e];simp[posF,e2]
 | z::r,y,x,h=>by
  rw[B9,not_or]at h
  rw[List.cons_append,posF,posF,posF_snoc x h.2]
  by_cases e:x=y
  ·have:¬ z=x:=fun e2=>h.1 (by rw[e2,e])
   rw[if_pos e,if_neg this,if_pos e];rfl
  ·rw[if_neg e,if_neg e]
theorem own_ne2 {w:A9}{B B2 e e2 s s2 n n2:Nat}{v v2:Ah}{xs xs2:List Ah} (h:w.ownsRow B e s v n xs) (h2:w.ownsRow B2 e2 s2 v2 n2 xs2) (he:e≠e2):∀ g,v.ownBlock=A2 g→v2.ownBlock≠A2 g:=by
 intro g hg hg2
 rcases h.2 with⟨rfl,_⟩ | ⟨b,cap,cur,rfl,_,hb,_⟩
 ·cases hg
 ·rcases h2.2 with⟨rfl,_⟩ | ⟨b2,cap2,cur2,rfl,_,hb2,_⟩
  ·cases hg2
  ·have hg':b=g:=by injection hg
   have hg2':b2=g:=by injection hg2
   subst hg'
   subst hg2'
   rw[hb]at hb2
   injection hb2 with hb2
   injection hb2 with _ hb2
   exact he hb2
theorem own_ne_map2 {w:A9}{B e size n M m:Nat}{v:Ah}{xs:List Ah}{f:By→Option Nat} (h:w.ownsRow B e size v n xs) (hM:SMap w M m f):v.ownBlock≠A2 M:=fun e=>by
 obtain⟨es,cl,hM⟩:=hM.obj
 rcases h.2 with⟨rfl,_⟩ | ⟨b,cap,cur,rfl,_,hb,_⟩
 ·cases e
 ·have e':b=M:=by injection e
  subst e'
  rw[hM]at hb
  cases hb
abbrev atV (t:PT):Ah:=.slice t.2.1 t.1.at_.length t.2.2
abbrev AtO (w:A9) (B:Nat) (t:PT):Prop:=w.ownsRow B 3 1 (atV t) t.1.at_.length (t.1.at_.map (B7 .i64))
structure PosS (w:A9) (B:Nat) (v:Ah) (T:List PT):Prop where
 own:OwnP w B v T
 rows:∀ t∈T,AtO w B t
 sep:∀ (i j:Nat) s t,i≠j→T[i]?=A2 s→T[j]?=A2 t→∀ g,(atV s).ownBlock=A2 g→(atV t).ownBlock≠A2 g
theorem PosS.nil (w:A9) (B:Nat):PosS w B (.slice A4 0 0) []:=⟨AH _ _ _ _,(fun t ht=>by cases ht),(fun i j s t _ hi=>by simp at hi)⟩
theorem PosS.below {w w':A9}{B:Nat}{v:Ah}{T:List PT} (h:PosS w B v T) (hb:A6 w.heap.size w w'):PosS w' B v T :=
 ⟨own_below h.own hb,fun t ht=>own_below (h.rows t ht) hb,h.sep⟩
theorem PosS.kept {w w':A9}{B:Nat}{v:Ah}{T:List PT}{row:Option Nat} (h:PosS w B v T) (hg:w.grownBy w' row) (h1:∀ g,v.ownBlock=A2 g→row≠A2 g) (h2:∀ t∈T,∀ g,(atV t).ownBlock=A2 g→row≠A2 g):PosS w' B v T:=by
 have key:∀ {u:Ah},(∀ g,u.ownBlock=A2 g→row≠A2 g)→u.ownBlock=A4∨u.ownBlock≠row:=fun {u} hu=>by
  cases hv:u.ownBlock with
  | none=>exact .inl rfl
  | some j=>exact .inr (fun e=>hu j hv e.symm)
 exact⟨h.own.kept hg (key h1),fun t ht=>(h.rows t ht).kept hg (key (h2 t ht)),h.sep⟩
theorem PosS.push {w w':A9}{B:Nat}{v v':Ah}{T:List PT}{p:Post} (h:PosS w B v T) (hp:p.at_=[]) (hg:w.grownBy w' v.ownBlock) (hown:OwnP w' B v' (T++[(p,A4,0)])):PosS w' B v' (T++[(p,A4,0)]):=by
 refine⟨hown,fun t ht=>?_,?_⟩
 ·rcases AZ.1 ht with ht | ht
  ·have h1:=h.rows t ht
   refine h1.kept hg ?_
   cases hv:(atV t).ownBlock with
   | none=>exact .inl rfl
   | some j=>exact .inr (fun e=>own_ne2 h1 h.own (by decide) j hv e.symm)
  ·rw[Bf]at ht
   rw[ht]
   unfold AtO atV
   simp only[hp]
   exact AH _ _ _ _
 ·intro i j s t hij hi hj g hs ht
  have key:∀ {j:Nat}{t:PT},(T++[(p,A4,0)])[j]?=A2 t→(j<T.length∧T[j]?=A2 t)∨t=(p,A4,0):=fun {j}{t} hj=>by
   rcases Cv j T.length with h1 | h1
   ·rw[List.getElem?_append_left h1]at hj;exact .inl ⟨h1,hj⟩
   ·rw[CS h1]at hj
    exact .inr (List.mem_singleton.1 (Ag hj))
  rcases key hi with⟨_,hi⟩ | hi
  ·rcases key hj with⟨_,hj⟩ | hj
   ·exact h.sep i j s t hij hi hj g hs ht
   ·rw[hj]at ht;cases ht
  ·rw[hi]at hs;cases hs
theorem flat_set:∀ (T:List PT) (k:Nat) (t t':PT) (u:Ah),T[k]?=A2 t→encP t'=(encP t).set 3 u→(T.set k t').flatMap encP=(T.flatMap encP).set (k*4+3) u
 | [],k,t,t',u,h,_=>by simp at h
 | y::r,0,t,t',u,h,he=>by
  have h0:y=t:=by simpa using h
  subst h0
  rw[List.set_cons_zero,DR,DR,he]
  rfl
 | y::r,k+1,t,t',u,h,he=>by
  have ih:=flat_set r k t t' u (by simpa using h) he
  rw[List.set_cons_succ,DR,DR,ih,List.set_append,if_neg (by rw[encP_len];omega),encP_len,show (k+1)*4+3 - 4=k*4+3 by omega]
theorem own_cell_set {w:A9}{B g cap k:Nat}{T:List PT}{t t':PT}{u:Ah} (h:OwnP w B (.slice (A2 ⟨g,0,A4⟩) T.length cap) T) (hk:T[k]?=A2 t) (he:encP t'=(encP t).set 3 u):OwnP (w.setCell ⟨g,k*4+3,A4⟩ u) B (.slice (A2 ⟨g,0,A4⟩) (T.set k t').length cap) (T.set k t'):=by
 unfold OwnP
 rw[flat_set T k t t' u hk he,K8]
 refine⟨by rw[K8];exact h.1,?_⟩
 rcases h.2 with⟨h1,_⟩ | ⟨b,cap2,cur,h1,h2,h3,h4,h5,h6,h7⟩
 ·cases h1
 ·have hb:b=g:=by injection h1 with h1;injection h1 with h1;injection h1 with h1;exact h1.symm
  have hc:cap2=cap:=by injection h1 with _ _ h1;exact h1.symm
  subst hb hc
  refine .inr ⟨b,cap2,cur.setIfInBounds (k*4+3) u,rfl,h2,?_,h4,h5,by simpa using h6,?_⟩
  ·simp[World.setCell,EE,h3]
  ·rw[Array.toList_setIfInBounds,← h7,List.take_set]
theorem set_get {T:List PT}{k j:Nat}{t' t2:PT} (h:(T.set k t')[j]?=A2 t2):(j=k∧t2=t')∨(j≠k∧T[j]?=A2 t2):=by
 by_cases e:j=k
 ·subst e
  rw[List.getElem?_set_self' ]at h
  cases hj:T[j]? with
  | none=>rw[hj]at h;cases h
  | some y=>rw[hj]at h;simp at h;exact .inl ⟨rfl,h.symm⟩
 ·rw[Jj (fun e2=>e e2.symm)]at h
  exact .inr ⟨e,h⟩
theorem row_set {w:A9}{B e size n:Nat}{v:Ah}{xs:List Ah} (h:w.ownsRow B e size v n xs) (p:Ao) (u:Ah) (hne:∀ g,v.ownBlock=A2 g→g≠p.block):(w.setCell p u).ownsRow B e size v n xs:=by
 refine⟨h.1,?_⟩
 rcases h.2 with h1 | ⟨g,cap,cur,rfl,h2,h3,h4⟩
 ·exact .inl h1
 ·exact .inr ⟨g,cap,cur,rfl,h2,(Ea _ _ _ _ (hne g rfl)).trans h3,h4⟩
theorem PosS.upd {w wA wq:A9}{B g cap k:Nat}{T:List PT}{p:Post}{a a':Option Ao}{c c':Nat}{i:Int} (h:PosS w B (.slice (A2 ⟨g,0,A4⟩) T.length cap) T) (hA:A6 w.heap.size w wA) (hk:T[k]?=A2 (p,a,c))
  (hg:wA.grownBy wq (atV (p,a,c)).ownBlock) (hown:wq.ownsRow B 3 1 (.slice a' (p.at_.length+1) c') (p.at_.length+1) (p.at_.map (B7 .i64)++[.int .i64 i])) (hv:(Em a' (p.at_.length+1) c').ownBlock=(atV (p,a,c)).ownBlock∨(Em a' (p.at_.length+1) c').ownBlock=A2 wA.heap.size) :
  PosS (wq.setCell ⟨g,k*4+3,A4⟩ (.slice a' (p.at_.length+1) c')) B (.slice (A2 ⟨g,0,A4⟩) (T.set k (⟨p.fld,p.word,p.id,p.at_++[i]⟩,a',c')).length cap) (T.set k (⟨p.fld,p.word,p.id,p.at_++[i]⟩,a',c')):=by
 have h1:=h.below hA
 have hmem:=Ag hk
 have hrow:=h1.rows _ hmem
 have keyn:∀ {u:Ah},(∀ b,u.ownBlock=A2 b→(atV (p,a,c)).ownBlock≠A2 b)→u.ownBlock=A4∨u.ownBlock≠(atV (p,a,c)).ownBlock:=fun {u} hu=>by
  cases hv:u.ownBlock with
  | none=>exact .inl rfl
  | some j=>exact .inr (fun e=>hu j hv e.symm)
 have hownP:OwnP wq B (.slice (A2 ⟨g,0,A4⟩) T.length cap) T:=h1.own.kept hg (keyn (own_ne2 h1.own hrow (by decide)))
 have hgb:(Em (A2 ⟨g,0,A4⟩) T.length cap).ownBlock=A2 g:=rfl
 have hlen:(Em a' (p.at_++[i]).length c')=.slice a' (p.at_.length+1) c':=by rw[Af];rfl
 refine⟨own_cell_set hownP hk (by simp[encP,Af]),fun t2 ht2=>?_,?_⟩
 ·obtain⟨j,hj⟩:=List.getElem?_of_mem ht2
  rcases set_get hj with⟨_,rfl⟩ | ⟨hne,hj⟩
  ·unfold AtO atV
   simp only[Af,AO,List.length_nil,AS,Cf,Ee]
   refine row_set hown _ _ (fun b hb e=>?_)
   exact own_ne2 hown hownP (by decide) b hb (by rw[e];exact hgb)
  ·have hr2:=h1.rows t2 (Ag hj)
   have hr3:=hr2.kept hg (keyn (fun b hb=>h1.sep j k t2 _ hne hj hk b hb))
   exact row_set hr3 _ _ (fun b hb e=>own_ne2 hr3 hownP (by decide) b hb (by rw[e];exact hgb))
 ·intro x y s t hxy hx hy b hs ht
  have hnew:∀ {j:Nat}{s:PT},j≠k→T[j]?=A2 s→∀ b,(atV s).ownBlock=A2 b→(Em a' (p.at_.length+1) c').ownBlock≠A2 b:=fun {j}{s} hj hs b hb e=>by
   rcases hv with hv | hv
   ·rw[hv]at e
    exact h1.sep j k s _ hj hs hk b hb e
   ·rw[hv]at e
    have:=((h1.rows s (Ag hs)).lt b hb).2
    injection e with e
    omega
  rcases set_get hx with⟨hxk,rfl⟩ | ⟨hxk,hx⟩
  ·rcases set_get hy with⟨hyk,rfl⟩ | ⟨hyk,hy⟩
   ·omega
   ·exact hnew hyk hy b ht (by rw[← hlen];exact hs)
  ·rcases set_get hy with⟨hyk,rfl⟩ | ⟨hyk,hy⟩
   ·exact hnew hxk hx b hs (by rw[← hlen];exact ht)
   ·exact h1.sep x y s t hxy hx hy b hs ht
end Ix
namespace Tx
open Go.Lib
theorem lens_mem:∀ {l:List (List UInt8)}{x:List UInt8},x∈l→x.length≤lens l
 | y::r,x,h=>by
  rcases B9.1 h with rfl | h
  ·simp[lens]
  ·have:=lens_mem h
   simp[lens]at this ⊢
   omega
theorem words_good {l:List UInt8} (hv:valid l=true):(∀ w∈words l,valid w=true∧w≠[]∧w.length≤2*l.length)∧(words l).length≤2*l.length:=by
 have h1:=fieldsT_good sepW (foldS_valid hv)
 have h2:=foldS_len hv
 unfold words
 refine⟨fun w hw=>⟨(h1.1 w hw).1,(h1.1 w hw).2,?_⟩,by omega⟩
 have:=lens_mem hw
 omega
end Tx
namespace Ix
open Rc
def Wok (x:By):Prop:=x≠[]∧x.length≤10000000
theorem wordsF_ok {f:Fl} (h:Gd f) (codes:By):∀ x∈wordsF f codes,Wok x:=by
 intro x hx
 unfold wordsF at hx
 obtain⟨s,hs,hx⟩:=H5.1 hx
 unfold allV at hs
 obtain⟨y,hy,rfl⟩:=B3.1 hs
 have hg:=h.2 y (B8.1 hy).1
 have h1:=(Tx.words_good hg.2).1 x hx
 have h2:y.2.data.toList.length=y.2.size:=by rw[Lib.size_eq]
 exact⟨h1.2.1,by have:=h1.2.2;omega⟩
theorem pick_ok {p:Fl→Bool}{codes:By}{fs:List Fl} (h:∀ f∈fs,Gd f):∀ x∈pick p codes fs,Wok x:=by
 intro x hx
 unfold pick at hx
 obtain⟨f,hf,hx⟩:=H5.1 hx
 exact wordsF_ok (h f (B8.1 hf).1) codes x hx
theorem nums_ok {fs:List Fl} (h:∀ f∈fs,Gd f):∀ x∈nums fs,Wok x:=by
 intro x hx
 unfold nums at hx
 obtain⟨f,hf,hx⟩:=H5.1 hx
 unfold numF at hx
 rw[B8]at hx
 obtain⟨s,hs,rfl⟩:=B3.1 hx.1
 unfold allV at hs
 obtain⟨y,hy,rfl⟩:=B3.1 hs
 have hg:=(h f (B8.1 hf).1).2 y (B8.1 hy).1
 have h2:y.2.data.toList.length=y.2.size:=by rw[Lib.size_eq]
 have h3:=plainB_len _ y.2.data.toList (An _)
 exact⟨by simpa using hx.2,by omega⟩
theorem term_ok {fs:List Fl} (h:∀ f∈fs,Gd f):∀ k,∀ x∈term fs k,Wok x
 | 0,x,hx=>by cases hx
 | 1,x,hx=>by
  rcases AZ.1 hx with hx | hx
  ·exact pick_ok h x hx
  ·exact pick_ok h x hx
 | 2,x,hx=>pick_ok h x hx
 | 3,x,hx=>pick_ok h x hx
 | 4,x,hx=>nums_ok h x hx
 | _+5,x,hx=>by cases hx
theorem termsTo_ok {fs:List Fl} (h:∀ f∈fs,Gd f):∀ k,∀ x∈termsTo fs k,Wok x
 | 0,x,hx=>by cases hx
 | k+1,x,hx=>by
  rw[termsTo_succ]at hx
  rcases AZ.1 hx with hx | hx
  ·exact termsTo_ok h k x hx
  ·exact term_ok h (k+1) x hx
theorem terms_ok {fs:List Fl} (h:∀ f∈fs,Gd f) (f:Int):∀ x∈terms fs f,Wok x:=by
 intro x hx
 by_cases h0:f=0
 ·rw[h0,terms_zero]at hx
  rcases AZ.1 hx with hx | hx
  ·exact termsTo_ok h 4 x hx
  ·exact pick_ok h x hx
 ·unfold terms at hx
  rw[if_neg h0]at hx
  split at hx
  ·exact term_ok h _ x hx
  ·cases hx
open Rc
section
variable {w : A9} {ops : Array GW} {rest : List GW} {o : GW} {a : Act} {Q : Exit → Act → A9 → Prop} {M n : Nat} {f : By → Option Nat}
theorem smap_look_some {x:By}{q:Nat} (hp:SMap w M n f) (hf:f x=A2 q) (hw:x.length≤9223372036854775807) (hg:o.guard=A4) (m k:JS) (hop:o.op=Op.lookup 207 m k true)
  (hm:a.eval m=.map (A2 M)) (hx:a.eval k=.string ⟨x.toArray⟩) (hK:EU A3 ops Q rest (a.put o.dst (.tuple #[.int .i64 q,.bool true])) w):EU A3 ops Q (o::rest) a w :=
 smap_look hp hw hg m k hop hm hx (by rw[hf];exact hK)
theorem smap_look_none {x:By} (hp:SMap w M n f) (hf:f x=A4) (hw:x.length≤9223372036854775807) (hg:o.guard=A4) (m k:JS) (hop:o.op=Op.lookup 207 m k true)
  (hm:a.eval m=.map (A2 M)) (hx:a.eval k=.string ⟨x.toArray⟩) (hK:EU A3 ops Q rest (a.put o.dst (.tuple #[.int .i64 0,.bool false])) w):EU A3 ops Q (o::rest) a w :=
 smap_look hp hw hg m k hop hm hx (by rw[hf];exact hK)
end
theorem PosS.shape {w:A9}{B:Nat}{v:Ah}{T:List PT} (h:PosS w B v T) {k:Nat}{t:PT} (hk:T[k]?=A2 t):∃ g cap,v=.slice (A2 ⟨g,0,A4⟩) T.length cap∧B≤g∧T.length≤cap∧cap≤Au∧g<w.heap.size∧(∃ cur,w.heap[g]?=A2 (.cells cur 100 (0,0)))∧w.cell? ⟨g,k*4+3,A4⟩=A2 (atV t):=by
 rcases h.own.2 with⟨_,h1⟩ | ⟨g,cap,cur,rfl,hb,hg,h1,h2,_⟩
 ·have:=Aw h1
  rw[this]at hk
  simp at hk
 ·obtain⟨a,c,e,_,_,hx⟩:=Br.own_any encP_len h.own rfl
  injection e with e1 _ e2
  subst e1 e2
  rcases hx with h3 | ⟨g2,e3,_,_,hc⟩
  ·rw[h3]at hk;simp at hk
  ·injection e3 with e3
   injection e3 with e3
   subst e3
   exact⟨g,cap,rfl,hb,h1,h2,(AN.1 hg).1,⟨cur,hg⟩,hc k 3 t _ hk (by omega) rfl⟩
def mks (k id:Int) (t:List By) (l:List By):List Post:=l.map (mkp k id t)
theorem mks_old {k id:Int}{t:List By}{j:Nat}{y:By} (hy:t[j]?=A2 y) (hm:y∈t.take j) {q:Nat} (hq:(firsts (t.take j))[q]?=A2 y) :
  mks k id (t.take (j+1)) (firsts (t.take (j+1)))=(mks k id (t.take j) (firsts (t.take j))).set q ⟨k,y,id,places (t.take j) y++[(j:Int)]⟩:=by
 unfold mks
 rw[firsts_take hy,if_pos hm,AD]
 have hql:=(Ai.1 hq).1
 apply Kr
 intro i
 by_cases e:i=q
 ·subst e
  rw[AE,hq,List.getElem?_set_self (by simpa using hql)]
  simp[mkp,places_take y hy]
 ·rw[Jj (fun e2=>e e2.symm),AE,AE]
  cases hi:(firsts (t.take j))[i]? with
  | none=>rfl
  | some x =>
   have hne:¬ y=x:=fun e2=>by
    subst e2
    have hn:=firsts_nodup (t.take j)
    have hil:=(Ai.1 hi).1
    have h1:=(Ai.1 hi).2
    have h2:=(Ai.1 hq).2
    exact e ((List.getElem_inj hn).1 (h1.trans h2.symm))
   simp[mkp,places_take x hy,hne]
theorem mks_new {k id:Int}{t:List By}{j:Nat}{y:By} (hy:t[j]?=A2 y) (hm:y ∉ t.take j) :
  mks k id (t.take (j+1)) (firsts (t.take (j+1)))=mks k id (t.take j) (firsts (t.take j))++[⟨k,y,id,[(j:Int)]⟩]:=by
 unfold mks
 rw[firsts_take hy,if_neg hm,AS]
 congr 1
 ·apply List.map_congr_left
  intro x hx
  have hne:¬ y=x:=fun e=>hm (by rw[e];exact firsts_mem.1 hx)
  simp[mkp,places_take x hy,hne]
 ·have h0:places (t.take j) y=[]:=placesF_nil hm
  simp[mkp,places_take y hy,h0]
end Ix
theorem own_addr2 {w:A9}{B e n:Nat}{a:Option Ao}{c:Nat}{xs:List Ah} (h:w.ownsRow B e 1 (.slice a n c) n xs) (hn:0<n):∃ g,a=A2 ⟨g,0,A4⟩:=by
 rcases h.2 with⟨_,h0⟩ | ⟨g,cap,cur,he,_⟩
 ·omega
 ·injection he with h1
  exact⟨g,h1⟩
theorem own_sep {u v:Ah} (h:∀ g,u.ownBlock=A2 g→v.ownBlock≠A2 g):u.ownBlock=A4∨u.ownBlock≠v.ownBlock:=by
 cases hv:u.ownBlock with
 | none=>exact .inl rfl
 | some j=>exact .inr (fun e=>h j hv e.symm)
theorem own_cell_kept {wN w8:A9}{B g cap:Nat}{T:List Cx}{o:Obj}{row:Option Nat} (h:Mg wN B (.slice (A2 ⟨g,0,A4⟩) T.length cap) T) (hg:(wN.alloc o).grownBy w8 row) (hne:A2 g≠row):Mg w8 B (.slice (A2 ⟨g,0,A4⟩) T.length cap) T :=
 (h.alloc o).kept hg (.inr hne)
theorem own_shape2 {w:A9}{B e s n:Nat}{v:Ah}{xs:List Ah} (h:w.ownsRow B e s v n xs):∃ a c,v=.slice a n c∧(∀ g,a=A2 g→v.ownBlock=A2 g.block):=by
 rcases h.2 with⟨rfl,h0⟩ | ⟨g,cap,cur,rfl,_⟩
 ·exact⟨A4,0,by rw[h0],fun g hg=>by cases hg⟩
 ·exact⟨_,cap,rfl,fun g hg=>by injection hg with hg;rw[← hg];rfl⟩
theorem ix_posts_c (r:Rc.Rd) (ra:Option Ao) (rc:Nat) (w:A9) (hG:G w) (hr:AV w ra rc r.fields) (hM:EI r.fields) (hV:∀ f∈r.fields,Ho f) :
  Ac A3 119 #[.agg #[.int .i64 r.id,.int .i64 r.ver,.int .i64 r.kind,.string r.lang,.slice ra r.fields.length rc]] w fun e w'=>(∃ v T,e=.returned v∧Mg w' w.heap.size v T∧Ix.Ats w' T∧(∀ t∈T,∀ g,t.2.1=A2 g→w.heap.size≤g.block)∧T.map (·.1)=Ix.posts r∧Cd T≤50000000∧A6 w.heap.size w w'):=by
 obtain⟨i0,hi0,hz0,hz1,hz2⟩:=BR info_int
 have HI:=J hi0;clear hi0
 obtain⟨i1,hi1,hy0,hy1,hy2⟩:=BR info_post
 have HI1:=J hi1;clear hi1
 obtain⟨W,hW⟩:∃ W,w.alloc (.cells #[.int .i64 r.id,.int .i64 r.ver,.int .i64 r.kind,.string r.lang,.slice ra r.fields.length rc] 51)=W:=⟨_,rfl⟩
 have hB:A6 w.heap.size w W:=by rw[← hW];exact Aa _ _
 have hbB:=hB.size
 have KR:Hid (W.heap[w.heap.size]?=A2 (.cells #[.int .i64 r.id,.int .i64 r.ver,.int .i64 r.kind,.string r.lang,.slice ra r.fields.length rc] 51 (0,0))):=J (by rw[← hW];exact heap_alloc_new w _)
 have hmm:=@run_makeMap A3
 go_enter Tryz.func119,Tryz.ntmps119
 go_wp2
 clear hW
 go_loopw [3,4] (fun v f wr=>∃ (k:Nat) (T:List Cx),k≤5∧f=.int .i64 k∧Ix.PosS wr W.heap.size v T∧Hid (T.map (·.1)=Fc r k)∧T.length≤10000000*k∧A6 W.heap.size W wr) (fun _ f _=>5 - (Ad f).toNat)
 case atStart=>exact⟨0,[],by omega,by go_num,Ix.PosS.nil _ _,J rfl,by simp,Ab _ _⟩
 case round =>
  obtain⟨k,T,hk,rfl,hPS,hE,hTl,hb⟩:=hrel
  have hbs:=hb.size
  by_cases hlt:k<5
  ·obtain⟨ts,hts⟩:∃ ts,Cw r.fields (k:Int)=ts:=⟨_,rfl⟩
   have htl:=Ix.terms_len hM (k:Int)
   rw[hts]at htl
   have hk4:(k:Int)≤4:=by omega
   have HPT:Hid (Fc r (k+1)=Fc r k++Ix.mks k r.id ts (Fo ts)):=J (by rw[Fc,hts];rfl)
   obtain⟨W1,hW1⟩:∃ W1,wr.alloc (.map #[] 0)=W1:=⟨_,rfl⟩
   have hb1:A6 wr.heap.size wr W1:=by rw[← hW1];exact Aa _ _
   have hSM1:Ix.SMap W1 wr.heap.size 0 (fun _=>A4):=by rw[← hW1];exact Ix.SMap.made wr
   have e0:W1.cell? ⟨w.heap.size,0,A4⟩=A2 (.int .i64 r.id):=(Aq (Aj (Aj KR.out hb) hb1)).1 0
   have e1:W1.cell? ⟨w.heap.size,1,A4⟩=A2 (.int .i64 r.ver):=(Aq (Aj (Aj KR.out hb) hb1)).1 1
   have e2:W1.cell? ⟨w.heap.size,2,A4⟩=A2 (.int .i64 r.kind):=(Aq (Aj (Aj KR.out hb) hb1)).1 2
   have e3:W1.cell? ⟨w.heap.size,3,A4⟩=A2 (.string r.lang):=(Aq (Aj (Aj KR.out hb) hb1)).1 3
   have e4:W1.cell? ⟨w.heap.size,4,A4⟩=A2 (.slice ra r.fields.length rc):=(Aq (Aj (Aj KR.out hb) hb1)).1 4
   have CT:Hid (Ac A3 62 #[.agg #[.int .i64 r.id,.int .i64 r.ver,.int .i64 r.kind,.string r.lang,.slice ra r.fields.length rc],.int .i64 (k:Int)] W1 fun e w'=>∃ v,e=.returned v∧AX w' W1.heap.size v ts∧A6 W1.heap.size W1 w'):=J (by
    have hbb:=A8 hB (A8 hb hb1)
    have h9:=ix_Terms_c r.fields ra rc r.id r.ver r.kind r.lang (k:Int) W1 (hG.below hbb) (hr.below hbb) hM hV
    rw[hts]at h9
    exact h9)
   have HTS:=J hts;clear hts
   have hs1:=hb1.size
   go_wp2_with (go_at_call 62;((with_reducible refine CT.out.mono ?_);rintro e w2 ⟨v2,rfl,hown2,hb2⟩;obtain⟨ta,tc,rfl,hta⟩:=own_shape2 hown2;have HO2:=J (Ix.row_lower hown2 (AK hbs hs1));clear hown2))
   have hSM2:Ix.SMap w2 wr.heap.size 0 (fun _=>A4):=hSM1.of_block (hb2.block _ hSM1.lt)
   have hPS2:=(hPS.below hb1).below hb2
   have hb3:=A8 hb (A8 hb1 hb2)
   obtain⟨M,hMd⟩:∃ M,wr.heap.size=M:=⟨_,rfl⟩
   rw[hMd]at hSM2
   rw[hMd]
   have HMB:Hid (W.heap.size≤M):=J (by rw[← hMd];exact hbs)
   clear hW1 e0 e1 e2 e3 e4 CT hSM1 hMd
   obtain⟨L0,hL0⟩:∃ L0,T.length=L0:=⟨_,rfl⟩
   have HL0:=J hL0
   rw[hL0]at hTl
   clear hL0
   go_loopw [3,19] (fun v i wr=>∃ (j:Nat) (T2:List Cx) (n:Nat),j≤ts.length∧i=.int .i64 j∧Ix.PosS wr W.heap.size v T2∧Hid (T2.map (·.1)=Fc r k++Ix.mks k r.id (ts.take j) (Fo (ts.take j)))∧Hid (Ix.SMap wr M n (fun x=>(Ix.posF (Fo (ts.take j)) x).map (L0+·)))∧n≤j∧Hid (wr.ownsRow W.heap.size 9 1 (.slice ta ts.length tc) ts.length (ts.map Gb))∧T2.length≤L0+j∧A6 W.heap.size W wr) (fun _ i _=>ts.length - (Ad i).toNat)
   case atStart=>exact⟨0,T,0,by omega,by go_num,hPS2,J (by rw[hE.out];exact (AD _).symm),J hSM2,by omega,HO2,by rw[HL0.out];omega,hb3⟩
   case round =>
    obtain⟨j,T2,n,hj,rfl,hPS4,hE4,hSM4,hnj,hO4,hTl4,hb4⟩:=hrel
    have hb4s:=hb4.size
    obtain⟨wm,hwm⟩:∃ wm,wm=wr:=⟨_,rfl⟩
    subst hwm
    by_cases hlt2:j<ts.length
    ·obtain⟨y,hy⟩:∃ y,ts[j]?=A2 y:=⟨_,A7 hlt2⟩
     obtain⟨tb,rfl⟩:=own_addr2 hO4.out (by omega)
     have d0:wm.cell? ⟨tb,j,A4⟩=A2 (.string ⟨y.toArray⟩):=(hO4.out.cellAt j (by omega)).trans (by rw[AE,hy];rfl)
     have hyl:y.length≤9223372036854775807:=by have:=(Ix.terms_ok hV (k:Int) y (by rw[HTS.out];exact Ag hy)).2;omega
     by_cases hm:y∈ts.take j
     ·have hmf:=Ix.firsts_mem.2 hm
      obtain⟨q,hpq,hfq⟩:=Ix.posF_some hmf
      have hmo:=Ix.mks_old (k:=(k:Int)) (id:=r.id) hy hm hfq
      have hft:=Ix.firsts_take hy
      rw[if_pos hm,AD]at hft
      obtain⟨K,hKd⟩:∃ K,L0+q=K:=⟨_,rfl⟩
      have hLp:(Fc r k).length=L0:=by rw[← hE.out,At];exact HL0.out
      have hpk:(T2.map (·.1))[K]?=A2 (Ix.mkp (k:Int) r.id (ts.take j) y):=by
       rw[hE4.out,← hKd,CS (by omega),hLp,Nat.add_sub_cancel_left]
       unfold Ix.mks
       rw[AE,hfq];rfl
      rw[AE,Option.map_eq_some_iff]at hpk
      obtain⟨⟨p,pa,pc⟩,hTK,hpe⟩:=hpk
      have hpe':p=⟨(k:Int),y,r.id,Ix.places (ts.take j) y⟩:=hpe
      have hpl:=Ix.places_len (ts.take j) y
      rw[Az]at hpl
      obtain⟨PL,hPL⟩:∃ PL,Ix.places (ts.take j) y=PL:=⟨_,rfl⟩
      rw[hPL]at hpe' hmo hpl
      subst hpe'
      have HPL:Hid (PL.length≤10000000):=J (by omega)
      have HTK:=J hTK
      have hPS3:=hPS4
      obtain⟨T3,hT3⟩:∃ T3,T3=T2:=⟨_,rfl⟩
      subst hT3
      obtain⟨g,cap,rfl,hBg,hTc,hcm,hgl,⟨cur,hcur⟩,e3⟩:=hPS3.shape hTK
      have HGL:=J hgl
      have E3:Hid (wm.cell? ⟨g,K*4+3,A4⟩=A2 (.slice pa PL.length pc)):=J (e3)
      have F3:=J ((Aq hcur).2.1 (K*4+3))
      have hrow:wm.ownsRow W.heap.size 3 1 (.slice pa PL.length pc) PL.length (PL.map (B7 .i64)):=hPS3.rows _ (Ag hTK)
      have HROW:=J hrow
      have HGN:Hid (A2 g≠Value.ownBlock (.slice pa PL.length pc)):=J (fun e=>Ix.own_ne2 hPS3.own hrow (by decide) g rfl e.symm)
      have HPS3:=J hPS3
      have e3':=E3.out
      have hKT:(K:Int)<(T3.length:Int):=Int.ofNat_lt.2 (Ai.1 hTK).1
      have hK0:(0:Int)≤(K:Int):=(by omega)
      clear hPS3 hrow hcur e3
      have HSM:=hSM4
      have HON:=hO4
      have HBL:=J hb4
      have HSMF:Hid ((fun x=>(Ix.posF (Fo (ts.take j)) x).map (L0+·)) y=A2 K):=J (by show (Ix.posF _ y).map _=_;rw[hpq,← hKd];rfl)
      have HMO:=J hmo
      have HFT:=J hft
      have HKD:=J hKd
      have HLP:=J hLp
      clear hPL hmo hft hKd hLp hpq hfq hmf hTK hm hy hpe hpl hPS4
      go_wp2_with (first
       |(at_builtin;refine wpList_append_sl rfl _ _ 35 rfl W.heap.size 3 i0 _ 1 8 Bl HI.out hz0 hz1 hz2 rfl (by decide) _ PL.length _ rfl (HROW.out.alloc _) (A2 ⟨_,0,A4⟩) 1 1 [.int .i64 (j:Int)] rfl rfl (fun h9=>by cases h9) (fun ad had=>by cases had;exact AR _ _ (by first | rfl | simp) _ _) (by simp[AT]) (by unfold Au;have:=HPL.out;omega) (by have:=HPL.out;omega) (by simp;have:=HBL.out.size;omega) ?_;intro v8 w8 hown8 hg8 hv8;obtain⟨a8,c8,rfl,_⟩:=own_shape2 hown8;have e8:=(hg8.cell_far ⟨g,K*4+3,A4⟩ (by simp;have:=HGL.out;omega) HGN.out).trans (A0 (Aa _ _) E3.out);have f8:=(hg8.frozen_far ⟨g,K*4+3,A4⟩ (by simp;have:=HGL.out;omega) HGN.out).trans ((Aa _ _).frozen (p:=⟨g,K*4+3,A4⟩) HGL.out |>.trans F3.out);have s8:=hg8.size;have g8:g<w8.heap.size:=(by have:=HGL.out;simp at s8;omega))
       |(at_lookup;go_must (refine Ix.smap_look_some HSM.out HSMF.out hyl rfl _ _ rfl rfl rfl ?_)))
      have hupd:=Ix.PosS.upd (i:=(j:Int)) HPS3.out (Aa _ _) HTK.out hg8 hown8 hv8
      rw[K8]at hupd
      have hb8:A6 W.heap.size W (w8.setCell ⟨g,K*4+3,A4⟩ (.slice a8 (PL.length+1) c8)):=((HBL.out.alloc HBL.out.size _).grown hg8 (by simp;have:=HBL.out.size;omega) (fun i hi=>(HROW.out.lt i hi).1)).setCell (by show W.heap.size≤g;exact hBg) _
      have hown8P:=own_cell_kept HPS3.out.own hg8 HGN.out
      have hO8:(w8.setCell ⟨g,K*4+3,A4⟩ (.slice a8 (PL.length+1) c8)).ownsRow W.heap.size 9 1 (.slice (A2 ⟨tb,0,A4⟩) ts.length tc) ts.length (ts.map Gb):=by
       have h1:=HON.out.alloc (.cells #[.int .i64 (j:Int)] 3)
       have h2:=h1.kept hg8 (own_sep (Ix.own_ne2 HON.out HROW.out (by decide)))
       exact Ix.row_set h2 _ _ (fun b hb e=>Ix.own_ne2 h2 hown8P (by decide) b hb (by rw[e];rfl))
      have hM8:(w8.setCell ⟨g,K*4+3,A4⟩ (.slice a8 (PL.length+1) c8)).heap[M]?=wm.heap[M]?:=by
       have h1:M≠g:=fun e=>Ix.own_ne_map2 HPS3.out.own HSM.out (by rw[e];rfl)
       exact (Ea w8 ⟨g,K*4+3,A4⟩ _ M h1).trans ((hg8.block M (by simp;have:=HSM.out.lt;omega) (fun e=>Ix.own_ne_map2 HROW.out HSM.out e.symm)).trans (hp_alloc_lt HSM.out.lt _))
      have hSM8:=HSM.out.of_block hM8
      have HE9:Hid ((T3.set K ((⟨(k:Int),y,r.id,PL++[(j:Int)]⟩:EP),a8,c8)).map (·.1)=Fc r k++Ix.mks k r.id (ts.take (j+1)) (Fo (ts.take (j+1)))):=J (by
       rw[List.map_set,hE4.out,HMO.out,List.set_append,if_neg (by have:=HLP.out;have:=HKD.out;omega),show K - (Fc r k).length=q by have:=HLP.out;have:=HKD.out;omega])
      have HS9:Hid (Ix.SMap (w8.setCell ⟨g,K*4+3,A4⟩ (.slice a8 (PL.length+1) c8)) M n (fun x=>(Ix.posF (Fo (ts.take (j+1))) x).map (L0+·))):=J (by rw[HFT.out];exact hSM8)
      have hl9:(T3.set K ((⟨(k:Int),y,r.id,PL++[(j:Int)]⟩:EP),a8,c8)).length≤L0+(j+1):=by rw[K8];omega
      have HO9:=J hO8
      go_roundw
      case rel=>exact⟨j+1,_,n,hlt2,by go_num,hupd,HE9,HS9,by omega,HO9,hl9,hb8⟩
      case measure=>simp[Ad];omega
     ·have hmn:=Ix.mks_new (k:=(k:Int)) (id:=r.id) hy hm
      have hft:=Ix.firsts_take hy
      rw[if_neg hm]at hft
      have hnf:y ∉ Fo (ts.take j):=fun h9=>hm (Ix.firsts_mem.1 h9)
      have hpn:=Ix.posF_none hnf
      have HSN:Hid (∀ x,Ix.posF (Fo (ts.take j)++[y]) x=if x=y then A2 (Fo (ts.take j)).length else Ix.posF (Fo (ts.take j)) x):=J (fun x=>Ix.posF_snoc x hnf)
      obtain⟨PL,hPL0⟩:∃ PL:List Int,PL=[]:=⟨_,rfl⟩
      have hPLe:=J hPL0
      have HPL:Hid (PL.length≤10000000):=J (by rw[hPL0];simp)
      have hLp:(Fc r k).length=L0:=by rw[← hE.out,At];exact HL0.out
      obtain⟨K,hKd⟩:∃ K,T2.length=K:=⟨_,rfl⟩
      have HKD:=J hKd
      have HTL:Hid (T2.length≤100000000):=J (by omega)
      have hKf:K=L0+(Fo (ts.take j)).length:=by
       have:=congrArg Cd hE4.out
       rw[At,Af,hLp]at this
       unfold Ix.mks at this
       rw[At]at this
       omega
      have HKF:=J hKf
      have HMN:=J hmn
      have HFT:=J hft
      obtain⟨a4,c4',rfl,_⟩:=own_shape2 hPS4.own
      have HPS0:=J hPS4
      have HSM0:=hSM4
      have HNM:Hid (n<Au):=J (by unfold Au;omega)
      have hlK:(T2.length:Int)=(K:Int):=by rw[hKd]
      have er:wm.cell? ⟨w.heap.size,0,A4⟩=A2 (.int .i64 r.id):=(Aq (Aj KR.out hb4)).1 0
      have ERL:Hid (w.heap.size<wm.heap.size):=J (B1 (AN.1 KR.out).1 hb4s)
      have ERN:Hid (A2 w.heap.size≠A2 M):=J (fun e=>by injection e with e;have h1:=HMB.out;have h2:=(AN.1 KR.out).1;omega)
      have HSMF:Hid ((fun x=>(Ix.posF (Fo (ts.take j)) x).map (L0+·)) y=A4):=J (by show (Ix.posF _ y).map _=_;rw[hpn];rfl)
      clear hmn hft hnf hpn hPL0 hLp hKf hm hy hPS4 hKd
      go_wp2_with (first
       |(at_builtin;refine wpList_append_sl rfl _ _ 22 rfl W.heap.size 100 i1 _ 4 56 Tryz.underlying22 HI1.out hy0 hy1 hy2 rfl (by decide) _ T2.length _ rfl (HPSA.out.own.alloc _) (A2 ⟨_,0,A4⟩) 1 1 (Il ((⟨(k:Int),y,r.id,PL⟩:EP),A4,0)) rfl rfl (fun h9=>by cases h9) (fun ad had=>by cases had;rw[hPLe.out];exact AR _ _ (by first | rfl | simp) #[.int .i64 (k:Int),.string ⟨y.toArray⟩,.int .i64 r.id,.slice A4 0 0] _) (Ix.p_one ((⟨(k:Int),y,r.id,PL⟩:EP),A4,0)) (by unfold Au;have:=HTL.out;omega) (by have:=HTL.out;omega) (by simp;have:=HBA.out.size;omega) ?_;intro v7 w7 hown7 hg7 hv7;obtain⟨T3,hT3⟩:∃ T3,T3=T2++[((⟨(k:Int),y,r.id,PL⟩:EP),A4,0)]:=⟨_,rfl⟩;have hPS3:Ix.PosS w7 W.heap.size v7 T3:=(by rw[hT3];exact Ix.PosS.push (HPSA.out.below (Aa _ _)) hPLe.out hg7 (Ix.own_snoc hown7));have hTK:T3[K]?=A2 ((⟨(k:Int),y,r.id,PL⟩:EP),A4,0):=(by rw[hT3,← HKD.out,CS (An _),IL];rfl);have HTK:=J hTK;have HT3:=J hT3;obtain⟨g,cap,rfl,hBg,hTc,hcm,hgl,⟨cur,hcur⟩,e3⟩:=hPS3.shape hTK;have HGL:=J hgl;have E3:Hid (w7.cell? ⟨g,K*4+3,A4⟩=A2 (.slice A4 0 0)):=J (e3.trans (by rw[hPLe.out];rfl));have F3:=J ((Aq hcur).2.1 (K*4+3));have hrow:w7.ownsRow W.heap.size 3 1 (.slice A4 0 0) PL.length (PL.map (B7 .i64)):=(by rw[hPLe.out];exact AH _ _ _ _);have HROW:=J hrow;have HGN:Hid (A2 g≠Value.ownBlock (.slice A4 0 0)):=J (fun e=>Ix.own_ne2 hPS3.own hrow (by decide) g rfl e.symm);have HPS3:=J hPS3;have e3':=E3.out;have hKT:(K:Int)<(T3.length:Int):=Int.ofNat_lt.2 (Ai.1 hTK).1;have hK0:(0:Int)≤(K:Int):=(by omega);clear hPS3 hrow hcur e3;have hs7:=hg7.size;have HBL:Hid (A6 W.heap.size W w7):=J ((HBA.out.alloc HBA.out.size _).grown hg7 (by simp;have:=HBA.out.size;omega) (fun i hi=>(HPSA.out.own.lt i hi).1));have HON:Hid (w7.ownsRow W.heap.size 9 1 (.slice (A2 ⟨tb,0,A4⟩) ts.length tc) ts.length (ts.map Gb)):=J ((HOA.out.alloc _).kept hg7 (own_sep (Ix.own_ne2 HOA.out HPSA.out.own (by decide))));have hM7:w7.heap[M]?=wa.heap[M]?:=((hg7.block M (by simp;have:=HSMA.out.lt;omega) (fun e=>Ix.own_ne_map2 HPSA.out.own HSMA.out e.symm)).trans (hp_alloc_lt HSMA.out.lt _));have HSM:=J (HSMA.out.of_block hM7);clear hT3 hTK)
       |(at_builtin;refine wpList_append_sl rfl _ _ 35 rfl W.heap.size 3 i0 _ 1 8 Bl HI.out hz0 hz1 hz2 rfl (by decide) _ PL.length _ rfl (HROW.out.alloc _) (A2 ⟨_,0,A4⟩) 1 1 [.int .i64 (j:Int)] rfl rfl (fun h9=>by cases h9) (fun ad had=>by cases had;exact AR _ _ (by first | rfl | simp) _ _) (by simp[AT]) (by unfold Au;have:=HPL.out;omega) (by have:=HPL.out;omega) (by simp;have:=HBL.out.size;omega) ?_;intro v8 w8 hown8 hg8 hv8;obtain⟨a8,c8,rfl,_⟩:=own_shape2 hown8;have e8:=(hg8.cell_far ⟨g,K*4+3,A4⟩ (by simp;have:=HGL.out;omega) HGN.out).trans (A0 (Aa _ _) E3.out);have f8:=(hg8.frozen_far ⟨g,K*4+3,A4⟩ (by simp;have:=HGL.out;omega) HGN.out).trans ((Aa _ _).frozen (p:=⟨g,K*4+3,A4⟩) HGL.out |>.trans F3.out);have s8:=hg8.size;have g8:g<w8.heap.size:=(by have:=HGL.out;simp at s8;omega))
       |(at_mapUpdate;go_must (refine Ix.smap_put (k:=K) HSM0.out HNM.out hyl rfl _ _ _ rfl rfl rfl rfl ?_);intro wa hma hga;have HSMA:=J hma;have hPSA:=HPS0.out.kept hga (fun b hb e=>Ix.own_ne_map2 HPS0.out.own HSM0.out (by rw[hb,← e])) (fun t ht b hb e=>Ix.own_ne_map2 (HPS0.out.rows t ht) HSM0.out (by rw[hb,← e]));have HPSA:=J hPSA;have HOA:=J (hO4.out.kept hga (.inr (Ix.own_ne_map2 hO4.out HSM0.out)));have HBA:=J (hb4.grown hga hb4s (fun i hi=>by injection hi with hi;rw[← hi];exact HMB.out));have era:=(hga.cell_far ⟨w.heap.size,0,A4⟩ ERL.out ERN.out).trans er;clear hma hPSA)
       |(at_lookup;go_must (refine Ix.smap_look_none HSM0.out HSMF.out hyl rfl _ _ rfl rfl rfl ?_)))
      have hupd:=Ix.PosS.upd (i:=(j:Int)) HPS3.out (Aa _ _) HTK.out hg8 hown8 hv8
      rw[K8]at hupd
      have hb8:A6 W.heap.size W (w8.setCell ⟨g,K*4+3,A4⟩ (.slice a8 (PL.length+1) c8)):=((HBL.out.alloc HBL.out.size _).grown hg8 (by simp;have:=HBL.out.size;omega) (fun i hi=>(HROW.out.lt i hi).1)).setCell (by show W.heap.size≤g;exact hBg) _
      have hown8P:=own_cell_kept HPS3.out.own hg8 HGN.out
      have hO8:(w8.setCell ⟨g,K*4+3,A4⟩ (.slice a8 (PL.length+1) c8)).ownsRow W.heap.size 9 1 (.slice (A2 ⟨tb,0,A4⟩) ts.length tc) ts.length (ts.map Gb):=by
       have h1:=HON.out.alloc (.cells #[.int .i64 (j:Int)] 3)
       have h2:=h1.kept hg8 (own_sep (Ix.own_ne2 HON.out HROW.out (by decide)))
       exact Ix.row_set h2 _ _ (fun b hb e=>Ix.own_ne2 h2 hown8P (by decide) b hb (by rw[e];rfl))
      have hM8:(w8.setCell ⟨g,K*4+3,A4⟩ (.slice a8 (PL.length+1) c8)).heap[M]?=w7.heap[M]?:=by
       have h1:M≠g:=fun e=>Ix.own_ne_map2 HPS3.out.own HSM.out (by rw[e];rfl)
       exact (Ea w8 ⟨g,K*4+3,A4⟩ _ M h1).trans ((hg8.block M (by simp;have:=HSM.out.lt;omega) (fun e=>Ix.own_ne_map2 HROW.out HSM.out e.symm)).trans (hp_alloc_lt HSM.out.lt _))
      have hSM8:=HSM.out.of_block hM8
      have HE9:Hid ((T3.set K ((⟨(k:Int),y,r.id,PL++[(j:Int)]⟩:EP),a8,c8)).map (·.1)=Fc r k++Ix.mks k r.id (ts.take (j+1)) (Fo (ts.take (j+1)))):=J (by
       rw[List.map_set,HT3.out,AS,hE4.out,HMN.out,← B0,List.set_append,if_neg (by rw[← hE4.out,At,HKD.out];omega),← hE4.out,At,HKD.out,IL,hPLe.out]
       rfl)
      have HS9:Hid (Ix.SMap (w8.setCell ⟨g,K*4+3,A4⟩ (.slice a8 (PL.length+1) c8)) M (n+1) (fun x=>(Ix.posF (Fo (ts.take (j+1))) x).map (L0+·))):=J (by
       have hfe:(fun x=>(Ix.posF (Fo (ts.take (j+1))) x).map (L0+·))=(fun z=>if z=y then A2 K else (fun x=>(Ix.posF (Fo (ts.take j)) x).map (L0+·)) z):=by
        funext x
        rw[HFT.out,HSN.out]
        by_cases e:x=y
        ·rw[if_pos e,if_pos e,HKF.out];rfl
        ·rw[if_neg e,if_neg e]
       rw[hfe]
       exact hSM8)
      have hl9:(T3.set K ((⟨(k:Int),y,r.id,PL++[(j:Int)]⟩:EP),a8,c8)).length≤L0+(j+1):=by rw[K8,HT3.out,Af];simp;omega
      have HO9:=J hO8
      go_roundw
      case rel=>exact⟨j+1,_,n+1,hlt2,by go_num,hupd,HE9,HS9,by omega,HO9,hl9,hb8⟩
      case measure=>simp[Ad];omega
    ·obtain rfl:j=ts.length:=by omega
     have hN:=hE4.out
     rw[Ap,← HPT.out]at hN
     have HN:=J hN;clear hN hE4
     have hl9:T2.length≤10000000*(k+1):=by omega
     go_wp2
     go_roundw
     case rel=>exact⟨k+1,T2,hlt,by go_num,hPS4,HN,hl9,hb4⟩
     case measure=>simp[Ad];omega
  ·obtain rfl:k=5:=by omega
   have hN:=hE.out
   rw[Ix.posts_to]at hN
   have HN:=J hN;clear hN hE
   go_wp2
   go_ret
   refine⟨_,T,rfl,Ix.row_lower hPS.own hbB,fun t ht=>?_,fun t ht g hg=>?_,HN.out,by omega,A8 hB hb⟩
   ·obtain⟨a,c,e,hia,_⟩:=Ix.IA.of_own (hPS.rows t ht) rfl
    injection e with e1 _ e2
    rw[e1,e2]
    exact hia
   ·obtain⟨a,c,e,_,hlo⟩:=Ix.IA.of_own (hPS.rows t ht) rfl
    injection e with e1 _ e2
    have:=hlo g (by rw[← e1];exact hg)
    omega
namespace Ix
open Rc
structure NMap (w:A9) (M n:Nat) (f:Int→Option Int):Prop where
 d:∃ D:C4 Unit,w.ownsMap A3 3 intE M n D∧∀ b,(Is .i64 b).wf=true→Maps.has D (.int .i64 b)=(f b).isSome∧D.atKey (.int .i64 b) (.lit (.int .i64 0))=.lit (.int .i64 ((f b).getD 0))
theorem nkey:Maps.Keyed A3 3:=Maps.int_keyed AI
theorem NMap.of_block {w w':A9}{M n:Nat}{f:Int→Option Int} (h:NMap w M n f) (hb:w'.heap[M]?=w.heap[M]?):NMap w' M n f:=by
 obtain⟨D,⟨es,clock,h1,h2⟩,h3⟩:=h.d
 exact⟨D,⟨es,clock,hb.trans h1,h2⟩,h3⟩
theorem NMap.lt {w:A9}{M n:Nat}{f:Int→Option Int} (h:NMap w M n f):M<w.heap.size:=by
 obtain⟨D,h1,_⟩:=h.d
 exact h1.lt
theorem NMap.obj {w:A9}{M n:Nat}{f:Int→Option Int} (h:NMap w M n f):∃ es c,w.heap[M]?=A2 (.map es c):=by
 obtain⟨D,⟨es,clock,h1,_⟩,_⟩:=h.d
 exact⟨es,clock,h1⟩
theorem NMap.made (w:A9):NMap (w.alloc (.map #[] 0)) w.heap.size 0 (fun _=>A4) :=
 ⟨⟨.map [],World.ownsMap_made _ _ _ _,fun _ _=>⟨rfl,rfl⟩⟩⟩
theorem NMap.look {w:A9}{M n:Nat}{f:Int→Option Int} (h:NMap w M n f) {b r:Int} (hr:(f b).getD 0=r) (hw:(Is .i64 b).wf=true):(Instr.lookup 133 (.map (A2 M)) (.int .i64 b) false).run A3 w=.ok (.int .i64 r) w:=by
 obtain⟨D,h1,h2⟩:=h.d
 obtain⟨h3,h4⟩:=h2 b hw
 obtain⟨v,ps,hrun,hv⟩:=h1.lookup nkey Tryz.underlying133 (szero w) (zd:=.lit (.int .i64 0)) (zp:=[]) rfl (My AI hw)
 rw[h4,hr]at hv
 obtain rfl:=intE_some hv
 exact hrun
section
variable {w : A9} {ops : Array GW} {rest : List GW} {o : GW} {a : Act} {Q : Exit → Act → A9 → Prop} {M n : Nat} {f : Int → Option Int}
theorem nmap_put {b r:Int} (hp:NMap w M n f) (hn:n<Au) (hw:(Is .i64 b).wf=true) (hg:o.guard=A4) (m x v:JS) (hop:o.op=Op.mapUpdate 133 m x v)
  (hm:a.eval m=.map (A2 M)) (hx:a.eval x=.int .i64 b) (hv:a.eval v=.int .i64 r)
  (hK:∀ w',NMap w' M (n+1) (fun y=>if y=b then A2 r else f y)→w.grownBy w' (A2 M)→EU A3 ops Q rest (a.put o.dst undef) w'):EU A3 ops Q (o::rest) a w:=by
 obtain⟨D,h1,h2⟩:=hp.d
 refine NN w hg m x v _ hop 3 3 nkey Tryz.underlying133 intE M n D hm h1 hn _ _ _ hx hv (My AI hw) (.lit (.int .i64 r)) [] rfl fun w' h3 h4=>?_
 refine hK w' ⟨⟨_,h3,fun y hy=>?_⟩⟩ h4
 have ht:=(h1.tidy nkey).isMap
 by_cases hyb:y=b
 ·subst hyb
  have hk:Lx (Is .i64 y):=trivial
  rw[if_pos rfl,Maps.has_put_same ht hk,Maps.atKey_put_same ht hk]
  exact⟨rfl,rfl⟩
 ·have hne:Is .i64 y≠Is .i64 b:=fun e=>hyb (by injection e)
  rw[if_neg hyb,Maps.has_put_other hne,NO hne]
  exact h2 y hy
end
theorem own_ne_nmap {w:A9}{B e size n M m:Nat}{v:Ah}{xs:List Ah}{f:Int→Option Int} (h:w.ownsRow B e size v n xs) (hM:NMap w M m f):v.ownBlock≠A2 M:=fun e=>by
 obtain⟨es,cl,hM⟩:=hM.obj
 rcases h.2 with⟨rfl,_⟩ | ⟨b,cap,cur,rfl,_,hb,_⟩
 ·cases e
 ·have e':b=M:=by injection e
  subst e'
  rw[hM]at hb
  cases hb
theorem chs_ids {l:List Rd}:∀ {k:Nat}{q:Rd},q∈l.take k→1≤q.id→q.id∈(chs l k).map (·.id)
 | 0,q,h,_=>by simp at h
 | k+1,q,h,h1=>by
  cases hk:l[k]? with
  | none =>
   rw[E1 (by rw[List.getElem?_eq_none_iff]at hk;omega)]at h
   rw[chs,hk]
   exact chs_ids (k:=k) (by rw[E1 (by rw[List.getElem?_eq_none_iff]at hk;omega)];exact h) h1
  | some r =>
   rw[take_snoc hk,AZ]at h
   rw[chs_succ hk]
   rcases h with h | h
   ·have ih:=chs_ids h h1
    split
    ·exact ih
    ·rw[AS];exact List.mem_append_left _ ih
   ·rw[Bf]at h
    subst h
    split
    ·rename_i hc
     rcases hc with hc | hc
     ·omega
     ·obtain⟨p,hp,e⟩:=met_iff.1 hc
      rw[← e]
      exact chs_ids hp (by omega)
    ·rw[AS];exact List.mem_append_right _ (by simp)
theorem chs_met {l:List Rd}{k:Nat}{r:Rd} (h1:1≤r.id):met l k r=true↔r.id∈(chs l k).map (·.id):=by
 rw[met_iff]
 constructor
 ·rintro⟨q,hq,e⟩
  rw[← e]
  exact chs_ids hq (by omega)
 ·intro h
  obtain⟨q,hq,e⟩:=B3.1 h
  exact⟨q,(chs_mem hq).2,e⟩
structure BuS (w:A9) (B:Nat) (v:Ah) (T:List PT):Prop where
 own:OwnP w B v T
 ats:Ats w T
 sep:∀ t∈T,t.1.at_≠[]→∀ g,t.2.1=A2 g→v.ownBlock≠A2 g.block
theorem BuS.below {w w':A9}{B:Nat}{v:Ah}{T:List PT} (h:BuS w B v T) (hb:A6 w.heap.size w w'):BuS w' B v T:=⟨own_below h.own hb,h.ats.below hb,h.sep⟩
theorem BuS.app {w w1 w':A9}{B:Nat}{v v':Ah}{T T2:List PT} (h:BuS w B v T) (hb:A6 w.heap.size w w1) (h2:Ats w1 T2) (hf:∀ t∈T2,∀ g,t.2.1=A2 g→w.heap.size≤g.block) (hg:w1.grownBy w' v.ownBlock) (hown:w'.ownsRow B 100 4 v' (T.length+T2.length) (T.flatMap encP++T2.flatMap encP)) (hv:v'.ownBlock=v.ownBlock∨v'.ownBlock=A2 w1.heap.size):BuS w' B v' (T++T2):=by
 have h':=h.below hb
 have hs2:∀ t∈T2,t.1.at_≠[]→∀ g,t.2.1=A2 g→v.ownBlock≠A2 g.block:=fun t ht _ g hg e=>by
  have h3:=(h.own.lt _ e).2
  have h4:=hf t ht g hg
  omega
 have hsA:∀ t∈T++T2,t.1.at_≠[]→∀ g,t.2.1=A2 g→v.ownBlock≠A2 g.block∧g.block<w1.heap.size:=fun t ht hn g hg=>by
  rcases AZ.1 ht with ht | ht
  ·exact⟨h.sep t ht hn g hg,(h'.ats t ht).lt hn g hg⟩
  ·exact⟨hs2 t ht hn g hg,(h2 t ht).lt hn g hg⟩
 have hat1:Ats w1 (T++T2):=fun t ht=>by
  rcases AZ.1 ht with ht | ht
  ·exact h'.ats t ht
  ·exact h2 t ht
 refine⟨by unfold OwnP;rw[Af,BB];exact hown,fun t ht=>?_,fun t ht hn g hg2 e=>?_⟩
 ·exact (hat1 t ht).agree hg.size (fun hn g hg2=>hg.block _ (hsA t ht hn g hg2).2 (fun e=>(hsA t ht hn g hg2).1 e.symm))
 ·rcases hv with hv | hv
  ·rw[hv]at e;exact (hsA t ht hn g hg2).1 e
  ·rw[hv]at e
   injection e with e
   have:=(hsA t ht hn g hg2).2
   omega
theorem BuS.sorted {w w':A9}{B:Nat}{v:Ah}{T S:List PT} (h:BuS w B v T) (hp:S.Perm T) (hg:w.grownBy w' v.ownBlock) (hown:OwnP w' B v S):BuS w' B v S :=
 ⟨hown,fun t ht=>(h.ats t (hp.mem_iff.1 ht)).agree hg.size (fun hn g hg2=>hg.block _ ((h.ats t (hp.mem_iff.1 ht)).lt hn g hg2) (fun e=>h.sep t (hp.mem_iff.1 ht) hn g hg2 e.symm)),fun t ht=>h.sep t (hp.mem_iff.1 ht)⟩
theorem BuS.kept {w w':A9}{B X:Nat}{v:Ah}{T:List PT} (h:BuS w B v T) (hX:X<B) (hat:∀ t∈T,t.1.at_≠[]→∀ g,t.2.1=A2 g→g.block≠X) (hb:∀ k,k≠X→w'.heap[k]?=w.heap[k]?) (hs:w.heap.size≤w'.heap.size):BuS w' B v T:=by
 refine⟨⟨h.own.1,?_⟩,fun t ht=>(h.ats t ht).agree hs (fun hn g hg=>hb _ (hat t ht hn g hg)),h.sep⟩
 rcases h.own.2 with h1 | ⟨g,cap,cur,rfl,h2,h3,h4⟩
 ·exact .inl h1
 ·exact .inr ⟨g,cap,cur,rfl,h2,(hb g (by omega)).trans h3,h4⟩
open Rc
theorem build_mem {rs:List Rd}{p:Post} (h:p∈build rs):∃ r∈rs,1≤r.id∧p∈posts r:=by
 unfold build at h
 rw[bld_eq]at h
 have h2:=(fold_perm _ _).mem_iff.1 h
 rw[List.nil_append]at h2
 obtain⟨r,hr,hp⟩:=H5.1 h2
 exact⟨r,Cb (chs_mem hr).2,(chs_mem hr).1,hp⟩
theorem places_lt {t:List By}{x:By}{n:Int} (h:n∈places t x):0≤n∧n<(t.length:Int):=by
 obtain⟨j,hj,hx⟩:=placesF_mem.1 h
 have:=(Ai.1 hx).1
 omega
def Dist (rs:List Rd):Prop:=∀ r∈rs,∀ q∈rs,r.id=q.id→r=q
theorem phr_mem {x:List Post}{f n:Int}{s:By}{l:List By}:n∈phrase x f (s::l)↔∃ p∈x,p.fld=f∧p.word=s∧p.id=n∧∃ m∈p.at_,folF x f p.id m 1 l=true:=by
 unfold phrase phr
 rw[Cp.puts_mem]
 simp only[List.mem_flatMap,B3,B8,Bool.and_eq_true,decide_eq_true_eq,beq_iff_eq]
 constructor
 ·rintro⟨p,⟨hp,h1,h2⟩,m,⟨hm,hf⟩,e⟩
  exact⟨p,hp,h1,h2,e,m,hm,hf⟩
 ·rintro⟨p,hp,h1,h2,e,m,hm,hf⟩
  exact⟨p,⟨hp,h1,h2⟩,m,⟨hm,hf⟩,e⟩
end Ix
namespace Vm
open Go.Maps (Keyed)
abbrev rawE:Ah→Option (C4 Ah × List MemPlace):=fun v=>A2 (.held v,[])
open Classical in
noncomputable def upd (f:Lit→Option Ah) (kl:Lit) (u:Ah):Lit→Option Ah:=fun y=>if y=kl then A2 u else f y
theorem upd_same (f:Lit→Option Ah) (kl:Lit) (u:Ah):upd f kl u kl=A2 u:=by unfold upd;rw[if_pos rfl]
theorem upd_other (f:Lit→Option Ah) {kl y:Lit} (u:Ah) (h:y≠kl):upd f kl u y=f y:=by unfold upd;rw[if_neg h]
def Reads (D:C4 Ah) (f:Lit→Option Ah):Prop:=∀ kl,Maps.has D kl=(f kl).isSome∧∀ z,D.atKey kl z=(match f kl with | some v=>.held v | none=>z)
structure Map (k:Bd) (w:A9) (M n:Nat) (f:Lit→Option Ah):Prop where
 d:∃ D:C4 Ah,w.ownsMap A3 k rawE M n D∧Reads D f
variable {k : Bd} {w w' : A9} {M n r cnt : Nat} {f : Lit → Option Ah} {left : Lit → Bool}
theorem Map.of_block (h:Map k w M n f) (hb:w'.heap[M]?=w.heap[M]?):Map k w' M n f:=by
 obtain⟨D,⟨es,clock,h1,h2⟩,h3⟩:=h.d
 exact⟨D,⟨es,clock,hb.trans h1,h2⟩,h3⟩
theorem Map.lt (h:Map k w M n f):M<w.heap.size:=by
 obtain⟨D,h1,_⟩:=h.d
 exact h1.lt
theorem Map.obj (h:Map k w M n f):∃ es c,w.heap[M]?=A2 (.map es c):=by
 obtain⟨D,⟨es,clock,h1,_⟩,_⟩:=h.d
 exact⟨es,clock,h1⟩
theorem Map.mono (h:Map k w M n f) {m:Nat} (hm:n≤m):Map k w M m f:=by
 obtain⟨D,h1,h2⟩:=h.d
 exact⟨D,h1.mono hm,h2⟩
theorem Map.kept (h:Map k w M n f) {row:Option Nat} (hg:w.grownBy w' row) (hne:A2 M≠row):Map k w' M n f:=h.of_block (hg.block M h.lt hne)
theorem Map.below (h:Map k w M n f) (hb:A6 w.heap.size w w'):Map k w' M n f:=h.of_block (hb.block M h.lt)
theorem Map.made (k:Bd) (w:A9):Map k (w.alloc (.map #[] 0)) w.heap.size 0 (fun _=>A4) :=
 ⟨⟨.map [],World.ownsMap_made _ _ _ _,fun _=>⟨rfl,fun _=>rfl⟩⟩⟩
theorem Map.ne_row {B e size m:Nat}{v:Ah}{xs:List Ah} (hM:Map k w M n f) (h:w.ownsRow B e size v m xs):v.ownBlock≠A2 M:=fun e=>by
 obtain⟨es,cl,hM⟩:=hM.obj
 rcases h.2 with⟨rfl,_⟩ | ⟨b,cap,cur,rfl,_,hb,_⟩
 ·cases e
 ·have e':b=M:=by injection e
  subst e'
  rw[hM]at hb
  cases hb
theorem Map.look (h:Map k w M n f) (K:Keyed A3 k) {t e:Bd} (ht:A3.underlying t=A2 (.map k e)) {z:Ah} (hz:(zeroValue e).run A3 w=.ok z w) {key:Ah}{kl:Lit} (hkey:keyOf A3 k key=A2 kl) {v:Ah} (hv:(f kl).getD z=v) :
  (Instr.lookup t (.map (A2 M)) key false).run A3 w=.ok v w:=by
 obtain⟨D,h1,h2⟩:=h.d
 obtain⟨u,ps,hrun,hu⟩:=h1.lookup K ht hz (zd:=.held z) (zp:=[]) rfl hkey
 rw[(h2 kl).2]at hu
 have e:u=v:=by
  injection hu with hu
  injection hu with hu
  cases hf:f kl with
  | none=>rw[hf]at hu hv;injection hu with hu;rw[hu];exact hv
  | some x=>rw[hf]at hu hv;injection hu with hu;rw[hu];exact hv
 rw[hrun,e]
section
variable {ops : Array GW} {rest : List GW} {o : GW} {a : Act} {Q : Exit → Act → A9 → Prop}
theorem Reads.put {D:C4 Ah} (h:Reads D f) (ht:Maps.IsMap D) {kl:Lit} (hk:Lx kl) (v:Ah):Reads (D.put kl (.held v)) (upd f kl v):=fun y=>by
 by_cases hy:y=kl
 ·subst hy
  rw[upd_same,Maps.has_put_same ht hk]
  exact⟨rfl,fun z=>Maps.atKey_put_same ht hk _ _⟩
 ·rw[upd_other _ _ hy,Maps.has_put_other hy]
  exact⟨(h y).1,fun z=>by rw[NO hy];exact (h y).2 z⟩
theorem put_step (hp:Map k w M n f) (hn:n<Au) (K:Keyed A3 k) {key:Ah}{kl:Lit} (hkey:keyOf A3 k key=A2 kl) (hkl:Lx kl) (hg:o.guard=A4) (m x v:JS) {t e:Bd} (hop:o.op=Op.mapUpdate t m x v)
  (ht:A3.underlying t=A2 (.map k e)) (hm:a.eval m=.map (A2 M)) (hx:a.eval x=key) {u:Ah} (hv:a.eval v=u)
  (hK:∀ w',Map k w' M (n+1) (upd f kl u)→w.grownBy w' (A2 M)→EU A3 ops Q rest (a.put o.dst undef) w'):EU A3 ops Q (o::rest) a w:=by
 obtain⟨D,h1,h2⟩:=hp.d
 refine NN w hg m x v _ hop k e K ht rawE M n D hm h1 hn _ _ _ hx hv hkey (.held u) [] rfl fun w' h3 h4=>?_
 exact hK w' ⟨⟨_,h3,h2.put (h1.tidy K).isMap hkl u⟩⟩ h4
structure Rng (k:Bd) (w:A9) (M r n:Nat) (f:Lit→Option Ah) (left:Lit→Bool) (cnt:Nat):Prop where
 d:∃ D:C4 Ah,w.ranges A3 k rawE M r n D left cnt∧Reads D f
theorem Rng.map (h:Rng k w M r n f left cnt):Map k w M n f:=by
 obtain⟨D,h1,h2⟩:=h.d
 exact⟨D,h1.owns,h2⟩
theorem Rng.kept (h:Rng k w M r n f left cnt) {row:Option Nat} (hg:w.grownBy w' row) (h1:A2 M≠row) (h2:A2 r≠row):Rng k w' M r n f left cnt:=by
 obtain⟨D,h3,h4⟩:=h.d
 exact⟨D,h3.kept hg h1 h2,h4⟩
theorem Rng.below (h:Rng k w M r n f left cnt) (hb:A6 w.heap.size w w'):Rng k w' M r n f left cnt :=
 h.kept (row:=A4) ⟨hb.os,hb.tape,hb.output,hb.size,fun k hk _=>hb.block k hk⟩ (by simp) (by simp)
theorem Rng.left_eq (h:Rng k w M r n f left cnt):w.rangeLeft M r=cnt:=by
 obtain⟨D,h3,_⟩:=h.d
 exact h3.left_eq
theorem Rng.ne_row {B e size m:Nat}{v:Ah}{xs:List Ah} (hR:Rng k w M r n f left cnt) (h:w.ownsRow B e size v m xs):v.ownBlock≠A2 r:=fun e=>by
 obtain⟨D,⟨es,clock,since,seen,c0,_,_,_,_,hr,_⟩,_⟩:=hR.d
 rcases h.2 with⟨rfl,_⟩ | ⟨b,cap,cur,rfl,_,hb,_⟩
 ·cases e
 ·have e':b=r:=by injection e
  subst e'
  rw[hr]at hb
  cases hb
theorem range_step (hp:Map k w M n f) (K:Keyed A3 k) (hg:o.guard=A4) (m:JS) {t e:Bd} (hop:o.op=Op.range t m) (ht:A3.underlying t=A2 (.map k e)) (hm:a.eval m=.map (A2 M))
  (hK:∀ w' cnt,cnt≤n→Rng k w' M w.heap.size n f (fun kl=>(f kl).isSome) cnt→w.grownBy w' A4→w'.heap.size=w.heap.size+1→EU A3 ops Q rest (a.put o.dst (.pointer (A2 ⟨w.heap.size,0,A4⟩))) w'):EU A3 ops Q (o::rest) a w:=by
 obtain⟨D,h1,h2⟩:=hp.d
 refine wpList_range_own w hg m t hop k e K ht rawE M n D hm h1 fun w' h3 h4 h5=>?_
 have e:Maps.has D=fun kl=>(f kl).isSome:=by funext kl;exact (h2 kl).1
 rw[e]at h3
 refine hK w' (Maps.size D) ?_ ⟨D,h3,h2⟩ h4 h5
 obtain⟨es,clock,_,_,hs,rfl⟩:=h1
 rw[Maps.size_eq,length_sorted]
 simpa using hs
theorem next_step (h:Rng 3 w M r n f left cnt) (hg:o.guard=A4) (it:JS) (hop:o.op=Op.next it false) (hit:a.eval it=.pointer (A2 ⟨r,0,A4⟩))
  (hDone:cnt=0→(∀ kl,left kl=false)→EU A3 ops Q rest (a.put o.dst (.tuple #[.bool false])) w)
  (hMore : ∀ (x : Int) (v : Ah) (w' : A9) (cnt' : Nat), (Is .i64 x).wf = true → left (.int .i64 x) = true → f (.int .i64 x) = A2 v → Rng 3 w' M r n f (fun z => left z && !z.sameKey (.int .i64 x)) cnt' → cnt' < cnt →
   w.grownBy w' (A2 r)→w'.heap.size=w.heap.size→(Instr.entry (.pointer (A2 ⟨r,0,A4⟩))).run A3 w'=.ok (.tuple #[.int .i64 x,v]) w'→EU A3 ops Q rest (a.put o.dst (.tuple #[.bool true,.int .i64 x,v])) w') :
  EU A3 ops Q (o::rest) a w:=by
 obtain⟨D,h1,h2⟩:=h.d
 refine wpList_next_ranges (α:=Int) (β:=Ah) w hg it hop 3 Ix.nkey rawE (B7 .i64) (fun v=>v) (fun key kl hkey=>by obtain⟨x,rfl,_⟩:=Maps.keyOf_int_inv AI hkey;exact⟨x,rfl⟩) (fun v y hv=>⟨v,rfl⟩) M r n D left cnt hit h1 hDone ?_
 intro x v kl y w' cnt' hkey hlk hv hat hrg hlt hgr hsz hen
 obtain⟨x',ex,rfl,hwx⟩:=Maps.keyOf_int_inv AI hkey
 cases ex
 have hv':y=(.held v,[]):=by injection hv with hv;exact hv.symm
 subst hv'
 refine hMore x v w' cnt' hwx hlk ?_ ⟨D,hrg,h2⟩ hlt hgr hsz hen
 have e:=hat .nil
 rw[(h2 _).2]at e
 cases hf:f (.int .i64 x) with
 | none=>rw[hf]at e;cases e
 | some u=>rw[hf]at e;injection e with e;rw[e]
end
end Vm
end Go.Proofs.YtlakomilichhnaaGreatDoor
