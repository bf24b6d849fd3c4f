/- Parts. -/
import Derived.Test.YtlakomilichhnaaGreatDoorROl
import Derived.Deep.RegionHeld3
namespace Go.Proofs.YtlakomilichhnaaGreatDoor
set_option maxHeartbeats 1600000
set_option maxRecDepth 100000
open Go.RowKit
open Bool renaming false_eq_true->Ca
open Go renaming Addr->Aq,Calls->Af,World->Ab,cell_later->A4,maxLen->Ap,wpList_append_own->Cy
open Lib renaming hid->J,indexByte->Cx,toList_data->AG
open List renaming drop_eq_getElem_cons->BT,drop_eq_nil_of_le->AS,drop_length->Dd,find?_cons->GZ,getElem?_eq_some_iff->Av
open Nat renaming le_refl->Ad,lt_of_lt_of_le->AN,lt_or_ge->D5,zero_le->Am
open Option renaming none->A0,some->A3
open Proofs renaming intOf->Aj
open Proofs.Tryz renaming prog->A8,underlying26->BF
open Rc renaming Fl->CH,allV->DJ,author->FU,authorT->Ks,firstNZ->Jg,get->Hx,tagIs->Bg,title->E4,yearIn->In
open RowKit renaming Below->Aa
open Tx renaming below_drewN->DP,cell_one_at->EU,getD_at->F0,newb->A9,ret1->AV,step->Ac
variable {P:Prop}
namespace Rc
structure SubA (w:Ab) (a:Option Aq) (c:Nat) (xs:List (UInt8 × ByteArray)):Prop where
 cap:xs.length<=c
 max:c<=Ap
 at_:∃ b o,(xs≠[]->a=A3 ⟨b,o,A0⟩/\b<w.heap.size)/\∀ (j:Nat) x,xs[j]?=A3 x->w.cell? ⟨b,o+j*2,A0⟩=A3 (.int .u8 x.1.toNat)/\w.cell? ⟨b,o+j*2+1,A0⟩=A3 (.string x.2)
theorem SubA.below {w w':Ab}{a:Option Aq}{c:Nat}{xs:List (UInt8 × ByteArray)} (h:SubA w a c xs) (hb:Aa w.heap.size w w'):SubA w' a c xs:=by
 obtain⟨b,o,h1,h2⟩:=h.at_;exact⟨h.cap,h.max,b,o,fun hn=>⟨(h1 hn).1,AN (h1 hn).2 hb.size⟩,fun j x hx=>⟨A4 hb (h2 j x hx).1,A4 hb (h2 j x hx).2⟩⟩
structure FldA (w:Ab) (a:Option Aq) (c:Nat) (fs:List Fl):Prop where
 cap:fs.length<=c
 max:c<=Ap
 at_:∃ b o,(fs≠[]->a=A3 ⟨b,o,A0⟩/\b<w.heap.size)/\∀ (j:Nat) f,fs[j]?=A3 f->w.cell? ⟨b,o+j*4,A0⟩=A3 (.string f.tag)/\w.cell? ⟨b,o+j*4+1,A0⟩=A3 (.string f.ind) /\
  (∃ sa sc,w.cell? ⟨b,o+j*4+2,A0⟩=A3 (.slice sa f.subs.length sc)/\SubA w sa sc f.subs)/\w.cell? ⟨b,o+j*4+3,A0⟩=A3 (.int .i64 f.auth)
theorem FldA.below {w w':Ab}{a:Option Aq}{c:Nat}{fs:List Fl} (h:FldA w a c fs) (hb:Aa w.heap.size w w'):FldA w' a c fs:=by
 obtain⟨b,o,h1,h2⟩:=h.at_;refine⟨h.cap,h.max,b,o,fun hn=>⟨(h1 hn).1,AN (h1 hn).2 hb.size⟩,fun j x hx=>?_⟩;obtain⟨c0,c1,⟨sa,sc,c2,hs⟩,c3⟩:=h2 j x hx;exact⟨A4 hb c0,A4 hb c1,⟨sa,sc,A4 hb c2,hs.below hb⟩,A4 hb c3⟩
theorem SubA.get {w:Ab}{a:Option Aq}{c:Nat}{xs:List (UInt8 × ByteArray)} (h:SubA w a c xs) {k:Nat}{x:UInt8 × ByteArray} (hk:xs[k]?=A3 x) :
  ∃ b o,a=A3 ⟨b,o,A0⟩/\b<w.heap.size/\w.cell? ⟨b,o+k*2,A0⟩=A3 (.int .u8 x.1.toNat)/\w.cell? ⟨b,o+k*2+1,A0⟩=A3 (.string x.2):=by
 obtain⟨b,o,h1,h2⟩:=h.at_;have hne:=ziw;exact⟨b,o,(h1 hne).1,(h1 hne).2,(h2 k x hk).1,(h2 k x hk).2⟩
theorem FldA.get {w:Ab}{a:Option Aq}{c:Nat}{xs:List Fl} (h:FldA w a c xs) {k:Nat}{f:Fl} (hk:xs[k]?=A3 f) :
  ∃ b o sa sc,a=A3 ⟨b,o,A0⟩/\b<w.heap.size/\w.cell? ⟨b,o+k*4,A0⟩=A3 (.string f.tag)/\w.cell? ⟨b,o+k*4+1,A0⟩=A3 (.string f.ind) /\
   w.cell? ⟨b,o+k*4+2,A0⟩=A3 (.slice sa f.subs.length sc)/\w.cell? ⟨b,o+k*4+3,A0⟩=A3 (.int .i64 f.auth)/\SubA w sa sc f.subs:=by
 obtain⟨b,o,h1,h2⟩:=h.at_;have hne:=ziw;obtain⟨c0,c1,⟨sa,sc,c2,hs⟩,c3⟩:=h2 k f hk;exact⟨b,o,sa,sc,(h1 hne).1,(h1 hne).2,c0,c1,c2,c3,hs⟩
theorem allV_take {xs:List (UInt8 × ByteArray)}{k:Nat}{x:UInt8 × ByteArray} (codes:By) (h:xs[k]?=A3 x):allV (xs.take (k+1)) codes=allV (xs.take k) codes++(if hasCode codes x.1=true then [x.2] else []):=by
 unfold allV;rw[List.take_add_one,h];simp only[Option.toList,List.filter_append,List.map_append];congr 1;by_cases hc:hasCode codes x.1=true
 ·simp[hc]
 ·simp[hc]
theorem indexByte_mem:∀ (l:By) (c:UInt8),0<=Cx l c↔c∈l
 | [],c=>by simp[Cx]
 | b::l,c=>by
  have ih:=indexByte_mem l c;have hg:=Lib.indexByte_ge l c;unfold Cx;by_cases hb:b=c
  ·subst hb;simp
  ·have hb':(b == c)=false:=by simpa using hb
   rw[hb',List.mem_cons];simp only[Ca,if_false];by_cases h1:Cx l c=-1
   ·rw[h1]at ih ⊢;simp only[beq_self_eq_true,if_true];constructor
    ·intro h;omega
    ·rintro (h | h)
     ·exact absurd h.symm hb
     ·have:=ih.2 h;omega
   ·have h2:(Cx l c == -1)=false:=by simpa using h1
    rw[h2];simp only[Ca,if_false];constructor
    ·intro _;exact .inr (ih.1 oQ)
    ·rintro (h | h)
     ·exact absurd h.symm hb
     ·have:=ih.2 h;omega
theorem code_in {codes:By}{c:UInt8} (h:codes≠[]):0<=Cx codes c↔hasCode codes c=true:=by
 rw[indexByte_mem];unfold hasCode;have:codes.isEmpty=false:=by simpa using h
 simp[this]
theorem code_none {codes:By} (c:UInt8) (h:codes=[]):hasCode codes c=true:=by subst h;rfl
theorem take_all {α:Type} (l:List α):l.take l.length=l:=List.take_of_length_le (Ad _)
end Rc
theorem y8n (h:P:=by
 have hb2:Aa w.heap.size w w2:=((hb.alloc hb.size _).alloc oW _).grown hg2 oW (fun j hj=>(hown.lt j hj).1);go_roundw
 case rel=>exact⟨k+1,L++[x.2],oQ,by go_num,J HT.out.symm,by simp;omega,by simpa using hown2,hb2⟩
 case measure=>simp[Aj];omega):P:=h
theorem field_All_c (f:CH) (a:Option Aq) (c:Nat) (codes:ByteArray) (w:Ab) (h:Rc.SubA w a c f.subs) (hl:f.subs.length<=1000) :
  Af A8 107 #[.agg #[.string f.tag,.string f.ind,.slice a f.subs.length c,.int .i64 f.auth],.string codes] w fun e w'=>∃ v,e=.returned v/\SL w' v (DJ f.subs codes.data.toList)/\Aa w.heap.size w w':=by
 obtain⟨i0,hi0,hz0,hz1,hz2⟩:=zih;have h0:Aa w.heap.size w (w.alloc (.cells #[.string f.tag,.string f.ind,.slice a f.subs.length c,.int .i64 f.auth] 84)):=A9 _ _;have hcap:=h.cap;go_enter Tryz.func107,Tryz.ntmps107;go_wp2;go_loopw [5,11] (fun v i wr=>∃ (k:Nat) (L:List ByteArray),k<=f.subs.length/\i=.int .i64 k/\Hid (L=DJ (f.subs.take k) codes.data.toList)/\L.length<=k/\wr.ownsRow w.heap.size 9 1 v L.length (L.map Value.string)/\Aa w.heap.size w wr) (fun _ i _=>f.subs.length - (Aj i).toNat)
 case atStart=>exact⟨0,[],Am _,rfl,J rfl,Ad _,World.ownsRow_nil _ _ _ _,h0⟩
 case round =>
  obtain⟨k,L,hk,rfl,hL,hLk,hown,hb⟩:=hrel;by_cases hlt:k<f.subs.length
  ·obtain⟨x,hx⟩:=zdb;obtain⟨b,o,rfl,hbl,c0,c1⟩:=h.get hx;replace c0:=A4 hb c0;replace c1:=A4 hb c1;have hT:=zol;have hbs:=hb.size;by_cases hce:codes.data.toList=[]
   ·have hH:=Rc.code_none x.1 hce;rw[if_pos hH,<- hL.out]at hT;have HT:=J hT;clear hT hH;have hem:codes.toList.isEmpty=true:=by rw[AG,hce];rfl
    clear hce h0;go_wp2_with (at_builtin;go_must (refine Cy _ rfl _ _ 26 rfl w.heap.size 9 i0 (.string ⟨#[]⟩) 1 16 BF hi0 hz0 hz1 hz2 rfl oX _ L.length _ rfl ((hown.alloc _).alloc _) ⟨_,0,A0⟩ 1 1 [.string x.2] rfl rfl (EU _ _ oZ _ _) oG oK oQ oW ?_);intro v' w2 hown2 hg2 hnil2);exact y8n
   ·have hcd:=Rc.code_in (c:=x.1) hce;have hem:codes.toList.isEmpty=false:=by rw[AG];simpa using hce
    clear hce h0;by_cases hH:Rc.hasCode codes.data.toList x.1=true
    ·rw[if_pos hH,<- hL.out]at hT;have hge:=hcd.2 hH;have HT:=J hT;clear hT hH hcd
     go_wp2_with (first
      |(go_at_call 185;refine (Tryz.strings_IndexByte codes x.1.toNat _).mono ?_;rintro e w1 ⟨rfl,rfl⟩)
      |(at_builtin;go_must (refine Cy _ rfl _ _ 26 rfl w.heap.size 9 i0 (.string ⟨#[]⟩) 1 16 BF hi0 hz0 hz1 hz2 rfl oX _ L.length _ rfl ((hown.alloc _).alloc _) ⟨_,0,A0⟩ 1 1 [.string x.2] rfl rfl (EU _ _ oZ _ _) oG oK oQ oW ?_);intro v' w2 hown2 hg2 hnil2))
     exact y8n
    ·rw[if_neg hH,List.append_nil,<- hL.out]at hT;have hge:¬ 0<=Cx codes.data.toList x.1:=fun h9=>hH (hcd.1 h9);have HT:=J hT;clear hT hH hcd;go_wp2_with (go_at_call 185;refine (Tryz.strings_IndexByte codes x.1.toNat _).mono ?_;rintro e w1 ⟨rfl,rfl⟩);go_roundw
     case rel=>exact⟨k+1,L,oQ,by go_num,J HT.out.symm,oQ,hown.alloc _,hb.alloc hb.size _⟩
     case measure=>simp[Aj];omega
  ·obtain rfl:k=f.subs.length:=oQ;have hL2:=hL.out;rw[Rc.take_all]at hL2;subst hL2;go_wp2;go_ret;exact⟨_,rfl,SL.of_own hown rfl,hb⟩
theorem field_Plain_c (f:CH) (a:Option Aq) (c:Nat) (codes:ByteArray) (w:Ab) (h:Rc.SubA w a c f.subs) (hg:Rc.Gd f) :
  Af A8 100 #[.agg #[.string f.tag,.string f.ind,.slice a f.subs.length c,.int .i64 f.auth],.string codes] w fun e w'=>e=.returned (.string ⟨(Rc.plain f.subs codes.data.toList).toArray⟩)/\Aa w.heap.size w w':=by
 have hlen:=hg.plain_le codes.data.toList;have hall:=(hg.all codes.data.toList).1;have h1:Rc.SubA (w.alloc (.cells #[.string f.tag,.string f.ind,.slice a f.subs.length c,.int .i64 f.auth] 84)) a c f.subs:=h.below (A9 _ _);have HG:=J hg;go_enter Tryz.func100,Tryz.ntmps100
 go_wp2_with (first
  |(go_at_call 107;refine (field_All_c f a c codes _ h1 HG.out.1).mono ?_;rintro e w1 ⟨v,rfl,hs1,hb1⟩)
  |(go_at_call 166;refine (Join_c v _ ⟨#[32]⟩ _ hs1 (Nat.le_trans hlen oQ) oQ).mono ?_;rintro e w2 ⟨rfl,hb2⟩))
 go_ret;exact⟨rfl,((A9 w _).trans (hb1.mono (A9 w _).size)).trans (hb2.mono (by have:=hb1.size;simp at this;omega))⟩
namespace Rc
def idxF {α:Type} (p:α->Bool):Nat->List α->Int
 | _,[]=>-1
 | k,x::r=>if p x=true then (k:Int) else idxF p (k+1) r
theorem idxF_none {α:Type}{p:α->Bool}:∀ (l:List α) (k:Nat),l.find? p=A0->idxF p k l=-1
 | [],_,_=>rfl
 | x::r,k,h=>by
  unfold idxF;rw[GZ]at h;cases hp:p x with
  | true=>rw[hp]at h;cases h
  | false=>rw[hp]at h;simpa using idxF_none r (k+1) h
theorem idxF_some {α:Type}{p:α->Bool}{y:α}:∀ (l:List α) (k:Nat),l.find? p=A3 y->∃ j,idxF p k l=((k+j:Nat):Int)/\l[j]?=A3 y
 | [],_,h=>by simp at h
 | x::r,k,h=>by
  unfold idxF;rw[GZ]at h;cases hp:p x with
  | true=>rw[hp]at h;injection h with h;subst h;exact⟨0,oZ,rfl⟩
  | false =>
   rw[hp]at h;obtain⟨j,h1,h2⟩:=idxF_some r (k+1) h;exact⟨j+1,by simp only[Ca,if_false];rw[h1];congr 1;omega,by simpa using h2⟩
theorem idxF_step {α:Type} (p:α->Bool) {l:List α}{k:Nat}{x:α} (h:l[k]?=A3 x):idxF p k (l.drop k)=if p x=true then (k:Int) else idxF p (k+1) (l.drop (k+1)):=by
 have hk:=zke;rw[BT hk];have:l[k]'hk=x:=(Av.1 h).2;rw[this];rfl
theorem u8_eq {a b:UInt8}:((a.toNat:Int) == (b.toNat:Int))=(a == b):=by
 rw[Bool.eq_iff_iff];simp only[beq_iff_eq];constructor
 ·intro h;exact UInt8.toNat.inj oQ
 ·intro h;rw[h]
end Rc
theorem get1_c (x:UInt8 × ByteArray) (cd:UInt8) (p:Nat) (w:Ab) (hp:w.cell? ⟨p,0,A0⟩=A3 (.int .u8 cd.toNat)) :
  Af A8 184 #[.agg #[.int .u8 x.1.toNat,.string x.2],.pointer (A3 ⟨p,0,A0⟩)] w fun e w'=>e=.returned (.bool (x.1 == cd))/\Aa w.heap.size w w':=by
 have hq:=Rc.u8_eq (a:=x.1) (b:=cd);have hp2:=A4 (A9 w (.cells #[.int .u8 x.1.toNat,.string x.2] 96)) hp;go_enter Tryz.func184,Tryz.ntmps184;go_wp2;go_ret;exact⟨Tx.retb (by first | exact hq | rfl),A9 _ _⟩
theorem idxSub_c (xs:List (UInt8 × ByteArray)) (a:Option Aq) (c:Nat) (cd:UInt8) (p:Nat) (w:Ab) (h:Rc.SubA w a c xs) (hp:w.cell? ⟨p,0,A0⟩=A3 (.int .u8 cd.toNat)) :
  Af A8 183 #[.slice a xs.length c,.func (.func 184) #[] #[.pointer (A3 ⟨p,0,A0⟩)]] w fun e w'=>e=.returned (.int .i64 (Rc.idxF (fun x=>x.1 == cd) 0 xs))/\Aa w.heap.size w w':=by
 have hcap:=h.cap;have hmax:=h.max;go_enter Tryz.func183,Tryz.ntmps183;go_wp2;go_loopw [5,8] (fun _ i wr=>∃ (k:Nat),k<=xs.length/\i=.int .i64 k/\Hid (Rc.idxF (fun x=>x.1 == cd) k (xs.drop k)=Rc.idxF (fun x=>x.1 == cd) 0 xs)/\Aa w.heap.size w wr) (fun _ i _=>xs.length - (Aj i).toNat)
 case atStart=>exact⟨0,Am _,rfl,J iG,Below.refl _ _⟩
 case round =>
  obtain⟨k,hk,rfl,hI,hb⟩:=hrel;by_cases hlt:k<xs.length
  ·obtain⟨x,hx⟩:=zfz;obtain⟨b,o,rfl,hbl,c0,c1⟩:=h.get hx;replace c0:=A4 hb c0;replace c1:=A4 hb c1;have hp1:=A4 hb hp;have hst:=Rc.idxF_step (fun x=>x.1 == cd) hx;rw[hI.out]at hst;have hmx:Ap=9223372036854775807:=rfl;cases hq:(x.1 == cd) with
   | true =>
    simp only[hq,if_true]at hst;have HS:=J hst;clear hst;have HQ:=J hq;clear hq;go_wp2_with (go_at_call 184;refine (get1_c x cd p _ hp1).mono ?_;rintro e w1 ⟨rfl,hb1⟩;rw[HQ.out]);go_ret;exact⟨AV HS.out.symm,Ac hb hb1⟩
   | false =>
    simp only[hq,Ca,if_false]at hst;have HS:=J hst;clear hst;have HQ:=J hq;clear hq;go_wp2_with (go_at_call 184;refine (get1_c x cd p _ hp1).mono ?_;rintro e w1 ⟨rfl,hb1⟩;rw[HQ.out]);go_roundw
    case rel=>exact⟨k+1,oQ,by go_num,J HS.out.symm,Ac hb hb1⟩
    case measure=>simp[Aj];omega
  ·obtain rfl:k=xs.length:=oQ;have hI2:=hI.out;rw[Dd]at hI2;have HI:=J hI2;clear hI2 hI;go_wp2;go_ret;exact⟨AV (by rw[<- HI.out];rfl),hb⟩
theorem field_Get_c (f:CH) (a:Option Aq) (c:Nat) (cd:UInt8) (w:Ab) (h:Rc.SubA w a c f.subs) :
  Af A8 105 #[.agg #[.string f.tag,.string f.ind,.slice a f.subs.length c,.int .i64 f.auth],.int .u8 cd.toNat] w fun e w'=>e=.returned (.tuple #[.string ((Hx f.subs cd).getD ⟨#[]⟩),.bool (Hx f.subs cd).isSome])/\Aa w.heap.size w w':=by
 obtain⟨W,hW⟩:∃ W,(w.alloc (.cells #[.string f.tag,.string f.ind,.slice a f.subs.length c,.int .i64 f.auth] 84)).alloc (.cells #[.int .u8 cd.toNat] 5)=W:=⟨_,rfl⟩;have hB:=zk;have hp:W.cell? ⟨w.heap.size+1,0,A0⟩=A3 (.int .u8 cd.toNat):=by rw[<- hW];simp
 have hs2:W.cell? ⟨w.heap.size,2,A0⟩=A3 (.slice a f.subs.length c):=by rw[<- hW];simp
 have h1:=zfw;have HW:=J hW;clear hW;have hcap:=h.cap;cases hf:f.subs.find? (fun x=>x.1 == cd) with
 | none =>
  have hI:=Rc.idxF_none f.subs 0 hf;have hG:Hx f.subs cd=A0:=by unfold Hx;rw[hf];rfl
  have HI:=J hI;clear hI;have HG:=J hG;clear hG hf;go_enter Tryz.func105,Tryz.ntmps105;go_wp2_with (go_at_call 183;rw[HW.out];refine (idxSub_c f.subs a c cd _ _ h1 hp).mono ?_;rintro e w1 ⟨rfl,hb1⟩;rw[HI.out];have hs3:=A4 hb1 hs2);go_ret2;rw[HG.out];exact⟨rfl,Ac hB hb1⟩
 | some y =>
  obtain⟨j,hI,hj⟩:=Rc.idxF_some f.subs 0 hf;rw[Nat.zero_add]at hI;have hG:Hx f.subs cd=A3 y.2:=by unfold Hx;rw[hf];rfl
  have hjl:j<f.subs.length:=(Av.1 hj).1;obtain⟨b,o,rfl,hbl,c0,c1⟩:=h1.get hj;have HI:=J hI;clear hI;have HG:=J hG;clear hG hf;go_enter Tryz.func105,Tryz.ntmps105;go_wp2_with (go_at_call 183;rw[HW.out];refine (idxSub_c f.subs _ c cd _ _ h1 hp).mono ?_;rintro e w1 ⟨rfl,hb1⟩;rw[HI.out];have hs3:=A4 hb1 hs2;have c3:=zif);go_ret2;rw[HG.out];exact⟨rfl,Ac hB hb1⟩
namespace Rc
theorem first_step (t:By) {fs:List Fl}{k:Nat}{f:Fl} (h:fs[k]?=A3 f):first (fs.drop k) t=if tagIs t f=true then A3 f else first (fs.drop (k+1)) t:=by
 have hk:k<fs.length:=(Av.1 h).1;rw[BT hk];have:fs[k]'hk=f:=(Av.1 h).2;rw[this];unfold first
 rw[GZ];cases tagIs t f <;> rfl
def FirstR (w:Ab) (e:Ending):Option Fl->Prop
 | none=>e=.returned (.tuple #[.agg #[.string ⟨#[]⟩,.string ⟨#[]⟩,.slice A0 0 0,.int .i64 0],.bool false])
 | some f=>∃ sa sc,e=.returned (.tuple #[.agg #[.string f.tag,.string f.ind,.slice sa f.subs.length sc,.int .i64 f.auth],.bool true])/\SubA w sa sc f.subs
theorem tag_eq (f:Fl) (t:ByteArray) {b:Bool} (h:tagIs t.data.toList f=b):(f.tag.toList == t.toList)=b:=by
 rw[AG,AG];exact h
end Rc
theorem record_first_c (fs:List CH) (a:Option Aq) (c:Nat) (id ver kind:Int) (lang t:ByteArray) (w:Ab) (h:Rc.FldA w a c fs) :
  Af A8 98 #[.agg #[.int .i64 id,.int .i64 ver,.int .i64 kind,.string lang,.slice a fs.length c],.string t] w fun e w'=>Rc.FirstR w' e (Rc.first fs t.data.toList)/\Aa w.heap.size w w':=by
 have hcap:=h.cap;have hmx:Ap=9223372036854775807:=rfl;have hmax:=h.max;obtain⟨W,hW⟩:∃ W,(w.alloc (.cells #[.int .i64 id,.int .i64 ver,.int .i64 kind,.string lang,.slice a fs.length c] 51)).alloc (.cells #[.string ⟨#[]⟩,.string ⟨#[]⟩,.slice A0 0 0,.int .i64 0] 84)=W:=⟨_,rfl⟩;have hB:=zk;have hs4:=zev
 have hblk:W.heap[w.heap.size+1]?=A3 (.cells #[.string ⟨#[]⟩,.string ⟨#[]⟩,.slice A0 0 0,.int .i64 0] 84 (0,0)):=by
  rw[<- hW];have:=heap_alloc_new (w.alloc (.cells #[.int .i64 id,.int .i64 ver,.int .i64 kind,.string lang,.slice a fs.length c] 51)) (.cells #[.string ⟨#[]⟩,.string ⟨#[]⟩,.slice A0 0 0,.int .i64 0] 84);simpa using this
 go_enter Tryz.func98,Tryz.ntmps98;go_wp2;clear hW;go_loopw [11] (fun i wr=>∃ (k:Nat),k<=fs.length/\i=.int .i64 k/\Hid (Rc.first (fs.drop k) t.data.toList=Rc.first fs t.data.toList)/\wr.heap[w.heap.size+1]?=A3 (.cells #[.string ⟨#[]⟩,.string ⟨#[]⟩,.slice A0 0 0,.int .i64 0] 84 (0,0))/\Aa w.heap.size w wr) (fun i _=>fs.length - (Aj i).toNat)
 case atStart=>exact⟨0,Am _,rfl,J iG,hblk,hB⟩
 case round =>
  obtain⟨k,hk,rfl,hI,hblk1,hb⟩:=hrel;by_cases hlt:k<fs.length
  ·obtain⟨f,hf⟩:=zah;obtain⟨b,o,sa,sc,rfl,hbl,c0,c1,c2,c3,hsub⟩:=h.get hf;replace c0:=A4 hb c0;replace c1:=A4 hb c1;replace c2:=A4 hb c2;replace c3:=A4 hb c3;have hst:=Rc.first_step t.data.toList hf;rw[hI.out]at hst;have hbw:=zfq;have hbk:=Tx.blk_later hblk1 (A9 wr (.cells #[.string f.tag,.string f.ind,.slice sa f.subs.length sc,.int .i64 f.auth] 84));obtain⟨hc,hfr,hlt9⟩:=Tx.blk hbk;have HBK:=J hbk;clear hbk hblk hblk1 hs4;cases hq:Bg t.data.toList f with
   | true =>
    have hq2:=Rc.tag_eq f t hq;rw[hq,if_pos rfl]at hst;have HS:=J hst;clear hst hq;go_wp2;refine bodyPost_ret (v:=.tuple #[.agg #[.string f.tag,.string f.ind,.slice sa f.subs.length sc,.int .i64 f.auth],.bool true]) zsk rfl ⟨?_,Tx.set4 hbw oQ _ _ _ _⟩;rw[HS.out];exact⟨sa,sc,rfl,hsub.below (Tx.set4 hbw oQ _ _ _ _)⟩
   | false =>
    have hq2:=Rc.tag_eq f t hq;rw[hq,if_neg oZ]at hst;have HS:=J hst;clear hst hq;go_wp2;go_roundw
    case rel=>exact⟨k+1,oQ,by go_num,J HS.out.symm,HBK.out,hbw⟩
    case measure=>simp[Aj];omega
  ·obtain rfl:k=fs.length:=oQ;have hI2:=hI.out;rw[Dd]at hI2;have HI:=J hI2;clear hI2 hI;obtain⟨hc,hfr,hlt9⟩:=Tx.blk hblk1;go_wp2;refine bodyPost_ret (v:=.tuple #[.agg #[.string ⟨#[]⟩,.string ⟨#[]⟩,.slice A0 0 0,.int .i64 0],.bool false]) zsk rfl ⟨?_,Tx.set4 hb oQ _ _ _ _⟩;rw[<- HI.out];rfl
theorem y2k (h:P:=by
 have HV:=J hv;clear hv;go_wp2;go_ret;exact⟨AV (by rw[<- HV.out];rfl),hb⟩):P:=h
theorem yearIn_c (s:ByteArray) (w:Ab) (hs:s.size<=1000000000) :
    Af A8 108 #[.string s] w fun e w'=>e=.returned (.int .i64 (In s.data.toList))/\Aa w.heap.size w w':=by
  have HL:=zpk;go_enter Tryz.func108,Tryz.ntmps108;go_wp2;go_loopw [3,4,5] (fun i _ _ wr=>∃ (I:Nat),I<=s.size+1/\i=.int .i64 I/\Hid (Rc.yr 0 0 (s.data.toList.drop I)=In s.data.toList)/\Aa w.heap.size w wr) (fun i _ _ _=>s.size+1 - (Aj i).toNat)
  case atStart=>exact⟨0,Am _,rfl,J aD,Below.refl _ _⟩
  case round =>
    obtain⟨I,hI,rfl,hY,hb⟩:=hrel;by_cases hlt:I<s.size
    · go_wp2
      go_loopw [4] (fun kk wr2=>∃ (K:Nat),I<=K/\K<=s.size/\kk=.int .i64 K/\Hid (∀ j,I<=j->j<K->Rc.isD (s.data.toList.getD j 0))/\Aa w.heap.size w wr2) (fun kk _=>s.size - (Aj kk).toNat)
      case atStart=>exact⟨I,Ad _,oQ,rfl,J (fun j h1 h2=>absurd h2 oQ),hb⟩
      case round =>
        obtain⟨K,hIK,hKs,rfl,hD,hb2⟩:=hrel;by_cases hd:K<s.size/\Rc.isD (s.data.toList.getD K 0)
        · obtain⟨hlt2,hdg⟩:=hd
          have HD2:Hid (∀ j,I<=j->j<K+1->Rc.isD (s.data.toList.getD j 0)):=J (fun j h1 h2=>by
            rcases D5 j K with h3 | h3
            · exact hD.out j h1 h3
            · obtain rfl:j=K:=oQ
              exact hdg)
          rw[F0 s K hlt2]at hdg;obtain⟨d1,d2⟩:=hdg;go_wp2;go_roundw
          case rel=>exact⟨K+1,oQ,oQ,by go_num,HD2,hb2⟩
          case measure=>simp[Aj];omega
        · have hend:K<s.data.toList.length->¬ Rc.isD (s.data.toList.getD K 0):=fun h9 h8=>hd ⟨by rw[HL.out];exact h9,h8⟩
          have hyr:=fun v hv=>Rc.year_round s.data.toList I K hIK (by rw[<- HL.out];exact hKs) hD.out hend v hv;rw[hY.out]at hyr;have HY:=J hyr;clear hyr hend
          have hways:(s.size<=K)\/(∃ h:K<s.size,(s[K]'h).toNat<48)\/(∃ h:K<s.size,48<=(s[K]'h).toNat/\57<(s[K]'h).toNat):=by
            rcases D5 K s.size with h1 | h1
            · have h2:¬ Rc.isD (s[K]'h1):=by rw[<- F0 s K h1];exact fun h9=>hd ⟨h1,h9⟩
              unfold Rc.isD at h2;rcases D5 (s[K]'h1).toNat 48 with h3 | h3
              · exact .inr (.inl ⟨h1,h3⟩)
              · exact .inr (.inr ⟨h1,h3,oQ⟩)
            · exact .inl h1
          clear hd;by_cases h4:K=I+4
          · subst h4
            have k0:=hD.out I oQ oQ;have k1:=hD.out (I+1) oQ oQ;have k2:=hD.out (I+2) oQ oQ;have k3:=hD.out (I+3) oQ oQ;have l0:I<s.size:=oQ;have l1:I+1<s.size:=oQ;have l2:I+2<s.size:=oQ;have l3:I+3<s.size:=oQ;rw[F0 s _ l0]at k0;rw[F0 s _ l1]at k1;rw[F0 s _ l2]at k2;rw[F0 s _ l3]at k3;have hv:=HY.out (((s[I]'l0).toNat - 48)*1000+((s[I+1]'l1).toNat - 48)*100+((s[I+2]'l2).toNat - 48)*10+((s[I+3]'l3).toNat - 48)) (fun _=>by rw[F0 s _ l0,F0 s _ l1,F0 s _ l2,F0 s _ l3]);rw[show I+4 - I=4 by omega]at hv;simp only[true_and]at hv;obtain⟨k0,k0'⟩:=k0;obtain⟨k1,k1'⟩:=k1;obtain⟨k2,k2'⟩:=k2;obtain⟨k3,k3'⟩:=k3;have HV:=J hv;clear hv;have f0:(I:Int)<(s.size:Int):=oQ;have f1:(I:Int)+1<(s.size:Int):=oQ;have f2:(I:Int)+2<(s.size:Int):=oQ;have f3:(I:Int)+3<(s.size:Int):=oQ;have g1:0<=(I:Int)+1:=oQ;have q1:IntKind.i64.wrap ((I:Int)+1)=(I:Int)+1:=IntWalk.i64_in _ oQ;have q2:IntKind.i64.wrap ((I:Int)+2)=(I:Int)+2:=IntWalk.i64_in _ oQ;have q3:IntKind.i64.wrap ((I:Int)+3)=(I:Int)+3:=IntWalk.i64_in _ oQ;have g2:0<=(I:Int)+2:=oQ;have g3:0<=(I:Int)+3:=oQ;rcases hways with hw | ⟨hw,hw1⟩ | ⟨hw,hw1,hw2⟩
            all_goals
              go_wp2;go_quiet (fail);go_wp2
            all_goals first
              | (go_ret
                 have hv:=HV.out;rw[if_pos oQ]at hv;exact⟨AV (by rw[hv];omega),DP hb2 _⟩)
              | (go_roundw
                 case rel =>
                   have hv:=HV.out;rw[if_neg oQ]at hv;exact⟨I+4+1,oQ,by go_num,J hv.symm,DP hb2 _⟩
                 case measure=>simp[Aj];omega)
          · have hv:=HY.out 0 (fun h=>absurd h oQ)
            rw[if_neg oQ]at hv;have HV:=J hv;clear hv;rcases hways with hw | ⟨hw,hw1⟩ | ⟨hw,hw1,hw2⟩
            all_goals
              go_wp2;go_roundw
              case rel=>exact⟨K+1,oQ,by go_num,J HV.out.symm,hb2⟩
              case measure=>simp[Aj];omega
    · have hv:=hY.out
      rw[AS eF]at hv;exact y2k
namespace Rc
def authorL (fs:List Fl):List By->By
 | []=>[]
 | t::r=>match authorT fs t with
  | some v=>v.data.toList
  | none=>authorL fs r
def tags3:List By:=[[49,48,48],[49,49,48],[55,48,48]]
theorem author_L (fs:List Fl):author fs=authorL fs tags3:=by
 unfold author tags3;simp only[authorL];cases authorT fs [49,48,48] with
 | some v=>rfl
 | none =>
  cases authorT fs [49,49,48] with
  | some v=>rfl
  | none=>cases authorT fs [55,48,48] <;> rfl
theorem firstNZ_step {l:List Nat}{k:Nat}{n:Nat} (h:l[k]?=A3 n):firstNZ (l.drop k)=if n=0 then firstNZ (l.drop (k+1)) else n:=by
 have hk:=zke;rw[BT hk];have:l[k]'hk=n:=(Av.1 h).2;rw[this];rfl
theorem all_size {f:Fl} (h:Gd f) (c:By) {x:ByteArray} (hx:x∈allV f.subs c):x.size<=100000:=by
 obtain⟨y,hy,rfl⟩:=allV_mem hx;exact (h.2 y hy).1
end Rc
theorem record_Title_c (fs:List CH) (a:Option Aq) (c:Nat) (id ver kind:Int) (lang:ByteArray) (w:Ab) (h:Rc.FldA w a c fs) (hg:∀ f∈fs,Rc.Gd f) :
  Af A8 43 #[.agg #[.int .i64 id,.int .i64 ver,.int .i64 kind,.string lang,.slice a fs.length c]] w fun e w'=>e=.returned (.string ⟨(E4 fs).toArray⟩)/\Aa w.heap.size w w':=by
 have hB:=zfx;have h1:=zfw;cases hf:Rc.first fs [50,52,53] with
 | none =>
  have hT:E4 fs=[]:=by unfold E4;rw[hf]
  have HT:=J hT;clear hT;have HF:=J hf;clear hf;go_enter Tryz.func43,Tryz.ntmps43;go_wp2_with (go_at_call 98;refine (record_first_c fs a c id ver kind lang ⟨#[50,52,53]⟩ _ h1).mono ?_;rintro e w1 ⟨hr,hb1⟩;have hr2:Rc.FirstR w1 e (Rc.first fs [50,52,53]):=hr;clear hr;rw[HF.out]at hr2;obtain rfl:=hr2);go_ret;rw[HT.out];exact⟨rfl,(Ac hB hb1).alloc (Ac hB hb1).size _⟩
 | some f =>
  have hgf:=hg f (Rc.first_mem hf);have hT:E4 fs=Tx.clean (Rc.plain f.subs [97,98]):=by unfold E4;rw[hf]
  have hpl:=hgf.plain_le [97,98];have hpv:=hgf.plain_valid [97,98];have HT:=J hT;clear hT;have HF:=J hf;clear hf;have HG:=J hgf;clear hgf hg;have HV:=J hpv;clear hpv;go_enter Tryz.func43,Tryz.ntmps43
  go_wp2_with (first
   |(go_at_call 98;refine (record_first_c fs a c id ver kind lang ⟨#[50,52,53]⟩ _ h1).mono ?_;rintro e w1 ⟨hr,hb1⟩;have hr2:Rc.FirstR w1 e (Rc.first fs [50,52,53]):=hr;clear hr;rw[HF.out]at hr2;obtain⟨sa,sc,rfl,hsub⟩:=hr2)
   |(go_at_call 100;refine (field_Plain_c f sa sc ⟨#[97,98]⟩ _ (hsub.below (A9 _ _)) HG.out).mono ?_;rintro e w2 ⟨rfl,hb2⟩)
   |(go_at_call 99;refine (text_Clean_c _ _ QF HV.out).mono ?_;rintro e w3 ⟨rfl,hb3⟩))
  go_ret;rw[HT.out];exact⟨rfl,Ac (Ac ((Ac hB hb1).alloc (Ac hB hb1).size _) hb2) hb3⟩
theorem y34 (h:P:=by
 go_roundw
 case rel=>exact⟨k+1,oQ,by go_num,J HT.out.symm,hb3⟩
 case measure=>simp[Aj];omega):P:=h
theorem vhy (h:P:=by
 rw[hat]at hTd;have HT:=J hTd;clear hTd hat;have HF:=J hf;clear hf;have HGT:=J hgt;clear hgt
 go_wp2_with (first
  |(go_at_call 98;refine (record_first_c fs a c id ver kind lang T _ h2).mono ?_;rintro e w1 ⟨hr2,hb1⟩;rw[HF.out]at hr2;obtain⟨sa,sc,rfl,hsub⟩:=hr2)
  |(go_at_call 105;refine (field_Get_c f sa sc 97 _ (hsub.below (A9 _ _))).mono ?_;rintro e w2 ⟨rfl,hb2⟩;rw[HGT.out]))
 have hb3:=Ac ((Ac hb hb1).alloc (Ac hb hb1).size _) hb2
 first
  |go_ret
   exact⟨Tx.rets (by rw[HT.out]),hB.trans (hb3.mono hB.size)⟩
  |exact y34):P:=h
theorem record_Author_c (fs:List CH) (a:Option Aq) (c:Nat) (id ver kind:Int) (lang:ByteArray) (w:Ab) (h:Rc.FldA w a c fs) :
  Af A8 47 #[.agg #[.int .i64 id,.int .i64 ver,.int .i64 kind,.string lang,.slice a fs.length c]] w fun e w'=>e=.returned (.string ⟨(FU fs).toArray⟩)/\Aa w.heap.size w w':=by
 obtain⟨W,hW⟩:=zbj;have hB:=zk;have s0:=zkj;have s1:=zkc;have s2:=zjt;have s3:=zkk;have s4:=zev;have t0:W.cell? ⟨w.heap.size+1,0,A0⟩=A3 (.string ⟨#[49,48,48]⟩):=by rw[<- hW];simp
 have t1:W.cell? ⟨w.heap.size+1,1,A0⟩=A3 (.string ⟨#[49,49,48]⟩):=by rw[<- hW];simp
 have t2:W.cell? ⟨w.heap.size+1,2,A0⟩=A3 (.string ⟨#[55,48,48]⟩):=by rw[<- hW];simp
 have h1:=zfw;go_enter Tryz.func47,Tryz.ntmps47;go_wp2;clear hW;go_loopw [11] (fun i wr=>∃ (k:Nat),k<=3/\i=.int .i64 k/\Hid (Rc.authorL fs (Rc.tags3.drop k)=FU fs)/\Aa W.heap.size W wr) (fun i _=>3 - (Aj i).toNat)
 case atStart=>exact⟨0,oQ,rfl,J (by rw[Rc.author_L];rfl),Below.refl _ _⟩
 case round =>
  obtain⟨k,hk,rfl,hA,hb⟩:=hrel;replace s0:=A4 hb s0;replace s1:=A4 hb s1;replace s2:=A4 hb s2;replace s3:=A4 hb s3;replace s4:=A4 hb s4;replace t0:=A4 hb t0;replace t1:=A4 hb t1;replace t2:=A4 hb t2;have h2:=h1.below hb;by_cases hlt:k<3
  ·obtain⟨T,hT,hTd⟩:∃ T:ByteArray,wr.cell? ⟨w.heap.size+1,k,A0⟩=A3 (.string T)/\Rc.authorL fs (Rc.tags3.drop k)=(match Ks fs T.data.toList with | some v=>v.data.toList | none=>Rc.authorL fs (Rc.tags3.drop (k+1))):=by
    rcases (show k=0\/k=1\/k=2 by omega) with rfl | rfl | rfl
    ·exact⟨_,t0,rfl⟩
    ·exact⟨_,t1,rfl⟩
    ·exact⟨_,t2,rfl⟩
   clear t0 t1 t2;rw[hA.out]at hTd;cases hf:Rc.first fs T.data.toList with
   | none =>
    have hat:Ks fs T.data.toList=A0:=by unfold Ks;rw[hf];rfl
    rw[hat]at hTd;have HT:=J hTd;clear hTd hat;have HF:=J hf;clear hf;go_wp2_with (go_at_call 98;refine (record_first_c fs a c id ver kind lang T _ h2).mono ?_;rintro e w1 ⟨hr2,hb1⟩;rw[HF.out]at hr2;obtain rfl:=hr2);have hb3:=(Ac hb hb1).alloc (Ac hb hb1).size (.cells #[.string ⟨#[]⟩,.string ⟨#[]⟩,.slice A0 0 0,.int .i64 0] 84);exact y34
   | some f =>
    cases hgt:Hx f.subs 97 with
    | none =>
     have hat:Ks fs T.data.toList=A0:=by unfold Ks;rw[hf];exact hgt
     exact vhy
    | some v =>
     have hat:Ks fs T.data.toList=A3 v:=by unfold Ks;rw[hf];exact hgt
     exact vhy
  ·obtain rfl:k=3:=oQ;have HA:Hid (FU fs=[]):=J (by rw[<- hA.out];rfl);go_wp2;go_ret;exact⟨Tx.rets (by rw[HA.out]),hB.trans (hb.mono hB.size)⟩
namespace Rc
theorem pub_eq (f:Fl) {b1 b2:Bool} (h1:tagIs [50,54,48] f=b1) (h2:tagIs [50,54,52] f=b2):(f.tag.toList == [50,54,48])=b1/\(f.tag.toList == [50,54,52])=b2/\pubTag f=(b1||b2):=by
 rw[AG];refine⟨h1,h2,?_⟩;unfold pubTag;rw[h1,h2]
end Rc
theorem record_Year_c (fs:List CH) (a:Option Aq) (c:Nat) (id ver kind:Int) (lang:ByteArray) (w:Ab) (h:Rc.FldA w a c fs) (hg:∀ f∈fs,Rc.Gd f) :
  Af A8 49 #[.agg #[.int .i64 id,.int .i64 ver,.int .i64 kind,.string lang,.slice a fs.length c]] w fun e w'=>e=.returned (.int .i64 (Rc.year fs))/\Aa w.heap.size w w':=by
 have hcap:=h.cap;have hmx:Ap=9223372036854775807:=rfl;have hmax:=h.max;have hB:=zfx;obtain⟨ys,hys⟩:=zgt;have hyr:Rc.year fs=Jg ys:=by rw[<- hys];rfl
 have HYS:=J hys;clear hys;go_enter Tryz.func49,Tryz.ntmps49;go_wp2;go_loopw [4,6,7,11,26] (fun _ _ _ i _ wr=>∃ (k:Nat),k<=fs.length/\i=.int .i64 k/\Hid (Jg (ys.drop k)=Rc.year fs)/\Aa w.heap.size w wr) (fun _ _ _ i _ _=>fs.length - (Aj i).toNat)
 case atStart=>exact⟨0,Am _,rfl,J (by rw[List.drop_zero,hyr]),hB⟩
 case round =>
  obtain⟨k,hk,rfl,hI,hb⟩:=hrel;clear hyr;by_cases hlt:k<fs.length
  ·obtain⟨f,hf⟩:=zah;have hgf:=hg f (List.mem_of_getElem? hf);obtain⟨b,o,sa,sc,rfl,hbl,c0,c1,c2,c3,hsub⟩:=h.get hf;replace c0:=A4 hb c0;replace c1:=A4 hb c1;replace c2:=A4 hb c2;replace c3:=A4 hb c3;have hsub1:=hsub.below hb;have hbw:=zfq;have hyk:=zep;have hst:=Rc.firstNZ_step hyk;rw[hI.out]at hst;cases h0:Bg [50,54,48] f <;> cases h4:Bg [50,54,52] f
   ·obtain⟨e0,e4,ep⟩:=Rc.pub_eq f h0 h4;rw[ep]at hst;simp only[Bool.or_self,Ca,if_false,if_true]at hst;have HS:=J hst;clear hst h0 h4 ep hyk;go_wp2;go_roundw
    case rel=>exact⟨k+1,oQ,by go_num,J HS.out.symm,hbw⟩
    case measure=>simp[Aj];omega
   all_goals
    obtain⟨e0,e4,ep⟩:=Rc.pub_eq f h0 h4;rw[ep]at hst;simp only[Bool.or_self,Bool.or_true,Bool.true_or,if_true]at hst;obtain⟨L,hL⟩:∃ L,DJ f.subs [99]=L:=⟨_,rfl⟩;have hsz:=zjf;have hll:=zpq;rw[hL]at hst;have HS:=J hst;clear hst h0 h4 ep hyk;have HL:=J hL;clear hL;have HZ:=J hsz;clear hsz;have HG:=J hgf;clear hgf;go_wp2_with (go_at_call 107;refine (field_All_c f sa sc ⟨#[99]⟩ _ (hsub1.below (A9 _ _)) HG.out.1).mono ?_;rintro e w1 ⟨v,rfl,hsl,hb1⟩;rw[show DJ f.subs (⟨#[99]⟩:ByteArray).data.toList=L from HL.out]at hsl;obtain⟨va,vc,rfl,hsla⟩:=hsl.sla;clear hsl);have hbo:=Ac hbw hb1;go_loopw [6,7,26] (fun _ _ j wr2=>∃ (m:Nat),m<=L.length/\j=.int .i64 m/\Hid (Jg ((L.map fun x=>In x.data.toList).drop m)=Rc.yearF L)/\Aa w1.heap.size w1 wr2) (fun _ _ j _=>L.length - (Aj j).toNat)
    case atStart=>exact⟨0,Am _,rfl,J aD,Below.refl _ _⟩
    case round =>
     obtain⟨m,hm,rfl,hJ,hb2⟩:=hrel;by_cases hml:m<L.length
     ·obtain⟨x,hx⟩:=zou;have hxs:=zhc;have hne:L≠[]:=by intro h0;rw[h0]at hml;simp at hml
      obtain⟨b5,o5,rfl,hbl5,d0⟩:=(hsla hne).get hx;replace d0:=A4 hb2 d0;have hst:=zdk;rw[hJ.out]at hst;obtain⟨Y,hY⟩:∃ Y,In x.data.toList=Y:=⟨_,rfl⟩;rw[hY]at hst;have HY:=J hY;clear hY hx hne;by_cases hy0:Y=0
      ·subst hy0;rw[if_pos rfl]at hst;have HT:=J hst;clear hst;go_wp2_with (go_at_call 108;refine (yearIn_c x _ oQ).mono ?_;rintro e w3 ⟨rfl,hb3⟩;rw[HY.out]);go_roundw
       case rel=>exact⟨m+1,oQ,by go_num,J HT.out.symm,Ac hb2 hb3⟩
       case measure=>simp[Aj];omega
      ·rw[if_neg hy0]at hst;have HT:=J hst;clear hst;have hyn:((Y:Int) != 0)=true:=by simp;omega
       have HU:=HS.out;rw[HT.out,if_neg hy0]at HU;have HU2:=J HU;clear HU;go_wp2_with (go_at_call 108;refine (yearIn_c x _ oQ).mono ?_;rintro e w3 ⟨rfl,hb3⟩;rw[HY.out]);go_ret;exact⟨AV (by rw[HU2.out]),hbo.trans ((Ac hb2 hb3).mono hbo.size)⟩
     ·obtain rfl:m=L.length:=oQ;have hv:=hJ.out;rw[AS eK]at hv;have HU:=HS.out;rw[<- hv,if_pos (show Jg []=0 from rfl)]at HU;have HU2:=J HU;clear HU hv;go_wp2;go_roundw
      case rel=>exact⟨k+1,oQ,by go_num,J HU2.out.symm,hbo.trans (hb2.mono hbo.size)⟩
      case measure=>simp[Aj];omega
  ·obtain rfl:k=fs.length:=oQ;have hv:=hI.out;rw[AS zso]at hv;exact y2k
end Go.Proofs.YtlakomilichhnaaGreatDoor
