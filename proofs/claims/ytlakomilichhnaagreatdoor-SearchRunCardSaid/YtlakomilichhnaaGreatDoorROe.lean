/- Parts. -/
import Derived.Test.YtlakomilichhnaaGreatDoorROd
import Derived.Test.YtlakomilichhnaaGreatDoorROb
namespace Go.Proofs.YtlakomilichhnaaGreatDoor
set_option maxHeartbeats 3200000
set_option maxRecDepth 100000
open Go.RowKit
open Go renaming Calls->Af,World->Ab,cell_later->A4
open Lib renaming hid->J,size_eq->Ao,toList_data->AG
open List renaming drop_eq_nil_of_le->AS,drop_zero->AU,mem_of_getElem?->AJ,take_length->At
open Nat renaming zero_le->Am
open Proofs.Tryz renaming func125->Mm,func24->IL,ntmps125->Ls,ntmps24->I5,prog->A8
open Rc renaming codeB->Lw,digB->GW,fieldE->GL
open Tx renaming getD_at->F0,ret1->AV,retb->AX,step->Ac
variable {P:Prop}
namespace Rc
theorem all_take {α:Type}{p:α->Prop}{l:List α}{k:Nat}{x:α} (h:l[k]?=some x) (hp:p x) (ha:∀ y∈l.take k,p y):∀ y∈l.take (k+1),p y:=by
 intro y hy;rw[List.take_add_one,h,List.mem_append]at hy;rcases hy with hy | hy
 ·exact ha y hy
 ·simp at hy;rw[hy];exact hp
theorem smallF_true {f:Fl} (h1:f.subs.length<=20) (h2:∀ x∈f.subs,x.2.size<=300):smallF f=true:=decide_eq_true ⟨h1,h2⟩
theorem smallF_len {f:Fl} (h1:¬ f.subs.length<=20):smallF f=false:=decide_eq_false fun h=>h1 h.1
theorem smallF_at {f:Fl}{k:Nat}{x:UInt8 × ByteArray} (h:f.subs[k]?=some x) (h2:¬ x.2.size<=300):smallF f=false:=decide_eq_false fun h9=>h2 (h9.2 x (AJ h))
theorem smallR_true {fs:List Fl} (h1:fs.length<=70) (h2:∀ f∈fs,smallF f=true):smallR fs=true:=decide_eq_true ⟨h1,h2⟩
theorem smallR_len {fs:List Fl} (h1:¬ fs.length<=70):smallR fs=false:=decide_eq_false fun h=>h1 h.1
theorem smallR_at {fs:List Fl}{k:Nat}{f:Fl} (h:fs[k]?=some f) (h2:smallF f=false):smallR fs=false:=decide_eq_false fun h9=>by have:=h9.2 f (AJ h);rw[h2]at this;cases this
end Rc
theorem yrm (h:P:=by
 go_wp2;go_round
 case rel=>exact⟨k+1,oQ,by go_num,hE2⟩
 case measure=>simp[intOf];omega):P:=h
theorem SmallField_c (f:Rc.Fl) (a:Option Addr) (c:Nat) (w:Ab) (h:Rc.SubA w a c f.subs) :
  Af A8 57 #[.agg #[.string f.tag,.string f.ind,.slice a f.subs.length c,.int .i64 f.auth]] w fun e w'=>e=.returned (.bool (Rc.smallF f))/\Below w.heap.size w w':=by
 obtain⟨W,hW,hB,-,-,c2,-⟩:=zal;have hS:=zfw;have hcap:=h.cap;have hmx:maxLen=9223372036854775807:=rfl;have hmax:=h.max;by_cases hl:f.subs.length<=20
 ·go_enter Tryz.func57,Tryz.ntmps57;go_wp2;clear hW;go_loop [3] (fun i=>∃ (k:Nat),k<=f.subs.length/\i=.int .i64 k/\Hid (∀ x∈f.subs.take k,x.2.size<=300)) (fun i=>f.subs.length - (intOf i).toNat)
  case atStart=>exact⟨0,Am _,rfl,J oZ⟩
  case round =>
   obtain⟨k,hk,rfl,hE⟩:=hrel;by_cases hlt:k<f.subs.length
   ·obtain⟨x,hx⟩:=zdb;obtain⟨b,o,rfl,hbl,d0,d1⟩:=hS.get hx;have HX:=J hx;clear hx;by_cases hz:x.2.size<=300
    ·have hE2:=J (Rc.all_take HX.out hz hE.out);exact yrm
    ·have HF:=J (Rc.smallF_at HX.out hz);go_wp2;go_ret;exact⟨AX HF.out.symm,hB⟩
   ·obtain rfl:k=f.subs.length:=oQ;have hE2:=hE.out;rw[At]at hE2;have HF:=J (Rc.smallF_true hl hE2);clear hE2;go_wp2;go_ret;exact⟨AX HF.out.symm,hB⟩
 ·have HF:=J (Rc.smallF_len hl);go_enter Tryz.func57,Tryz.ntmps57;go_wp2;clear hW;go_ret;exact⟨AX HF.out.symm,hB⟩
theorem Small_c (fs:List Rc.Fl) (a:Option Addr) (c:Nat) (id ver kind:Int) (lang:ByteArray) (w:Ab) (h:Rc.FldA w a c fs) :
  Af A8 23 #[.agg #[.int .i64 id,.int .i64 ver,.int .i64 kind,.string lang,.slice a fs.length c]] w fun e w'=>e=.returned (.bool (Rc.smallR fs))/\Below w.heap.size w w':=by
 obtain⟨W,hW,hB,-,-,-,-,c4⟩:=zb;have hWs:=zlm;have hcap:=h.cap;have hmx:maxLen=9223372036854775807:=rfl;have hmax:=h.max;by_cases hl:fs.length<=70
 ·go_enter Tryz.func23,Tryz.ntmps23;go_wp2;clear hW;go_loopw [3] (fun i wr=>∃ (k:Nat),k<=fs.length/\i=.int .i64 k/\Hid (∀ f∈fs.take k,Rc.smallF f=true)/\Below W.heap.size W wr) (fun i _=>fs.length - (intOf i).toNat)
  case atStart=>exact⟨0,Am _,rfl,J oZ,Below.refl _ _⟩
  case round =>
   obtain⟨k,hk,rfl,hE,hb⟩:=hrel;have hbw:=znd;replace c4:=A4 hb c4;by_cases hlt:k<fs.length
   ·obtain⟨f,hf⟩:=zah;obtain⟨b,o,sa,sc,rfl,hbl,d0,d1,d2,d3,hsub⟩:=h.get hf;replace d0:=A4 hbw d0;replace d1:=A4 hbw d1;replace d2:=A4 hbw d2;replace d3:=A4 hbw d3;have hsub2:=hsub.below hbw;have HF:=J hf;clear hf;cases hz:Rc.smallF f with
    | true =>
     have hE2:=J (Rc.all_take HF.out hz hE.out);have HZ:=J hz;clear hz;go_wp2_with (go_at_call 57;refine (SmallField_c f sa sc _ hsub2).mono ?_;rintro e w1 ⟨rfl,hb1⟩;rw[HZ.out]);go_roundw
     case rel=>exact⟨k+1,oQ,by go_num,hE2,Ac hb hb1⟩
     case measure=>simp[intOf];omega
    | false =>
     have HR:=J (Rc.smallR_at HF.out hz);have HZ:=J hz;clear hz;go_wp2_with (go_at_call 57;refine (SmallField_c f sa sc _ hsub2).mono ?_;rintro e w1 ⟨rfl,hb1⟩;rw[HZ.out]);go_ret;exact⟨AX HR.out.symm,Ac hbw hb1⟩
   ·obtain rfl:k=fs.length:=oQ;have hE2:=hE.out;rw[At]at hE2;have HF:=J (Rc.smallR_true hl hE2);clear hE2;go_wp2;go_ret;exact⟨AX HF.out.symm,hbw⟩
 ·have HF:=J (Rc.smallR_len hl);go_enter Tryz.func23,Tryz.ntmps23;go_wp2;clear hW;go_ret;exact⟨AX HF.out.symm,hB⟩
theorem yhx (h:P:=by
 go_ret;exact⟨AX (by first | exact HQ.out.symm | (rw[HQ.out];simp;omega)),rfl⟩):P:=h
theorem ygd (h:P:=by
 go_enter Tryz.func126,Tryz.ntmps126;go_wp2;exact yhx):P:=h
theorem r07_digit_c (x:UInt8) (w:Ab) :
  Af A8 126 #[.int .u8 x.toNat] w fun e w'=>e=.returned (.bool (GW x))/\w=w':=by
 by_cases h1:48<=x.toNat
 ·by_cases h2:x.toNat<=57
  ·have HQ:=J (show GW x=true by unfold GW;simp;omega);have g1:(48:Int)<=(x.toNat:Int):=oQ;have g2:(x.toNat:Int)<=57:=oQ;exact ygd
  ·have HQ:=zlg;have g1:(48:Int)<=(x.toNat:Int):=oQ;have g2:(57:Int)<(x.toNat:Int):=oQ;exact ygd
 ·have HQ:=zlg;have g1:(x.toNat:Int)<48:=oQ;exact ygd
theorem ulz (h:P:=by
 go_enter Tryz.func127,Tryz.ntmps127;go_wp2_with (go_at_call 126;refine (r07_digit_c x _).mono ?_;rintro e w' ⟨rfl,rfl⟩;rw[HD.out]);exact yhx):P:=h
theorem r07_Code_c (x:UInt8) (w:Ab) :
  Af A8 127 #[.int .u8 x.toNat] w fun e w'=>e=.returned (.bool (Lw x))/\w=w':=by
 cases hd:GW x with
 | true =>
  have HQ:=J (show Lw x=true by unfold Lw;rw[hd];rfl);have HD:=J hd;clear hd;exact ulz
 | false =>
  by_cases h1:97<=x.toNat
  ·by_cases h2:x.toNat<=122
   ·have HQ:=J (show Lw x=true by unfold Lw Rc.lowB;rw[hd];simp;omega);have g1:(97:Int)<=(x.toNat:Int):=oQ;have g2:(x.toNat:Int)<=122:=oQ;have HD:=J hd;clear hd;exact ulz
   ·have HQ:=zii;have g1:(97:Int)<=(x.toNat:Int):=oQ;have g2:(122:Int)<(x.toNat:Int):=oQ;have HD:=J hd;clear hd;exact ulz
  ·have HQ:=zii;have g1:(x.toNat:Int)<97:=oQ;have HD:=J hd;clear hd;exact ulz
namespace Rc
theorem three {s:ByteArray} (h:s.size=3):∃ x y z:UInt8,s=⟨#[x,y,z]⟩:=by
 obtain⟨⟨l⟩⟩:=s
 match l,h with
 | [x,y,z],_=>exact⟨x,y,z,rfl⟩
end Rc
theorem vax (h:P:=by
 rw[hx,hy,hz]at hq;have HQ:=J hq;clear hq;have HX:=J hx;clear hx;have HY:=J hy;clear hy;have HZ:=J hz;clear hz;go_enter Mm,Ls;go_wp2_with (first | (go_at_call 126;(with_reducible refine (r07_digit_c x _).mono ?_);rintro e1 w1 ⟨rfl,rfl⟩;rw[HX.out]) | (go_at_call 126;(with_reducible refine (r07_digit_c y _).mono ?_);rintro e2 w2 ⟨rfl,rfl⟩;rw[HY.out]) | (go_at_call 126;(with_reducible refine (r07_digit_c z _).mono ?_);rintro e3 w3 ⟨rfl,rfl⟩;rw[HZ.out]));go_ret
 first
  |exact⟨AX (by rw[HQ.out];simp[Go.Proofs.bytesLess_eq]),rfl⟩
  |exact⟨AX UK,rfl⟩):P:=h
theorem vs6 (h:P:=by
 go_wp2_with (first | (go_at_call 126;(with_reducible refine (r07_digit_c x _).mono ?_);rintro e1 w1 ⟨rfl,rfl⟩;rw[HX.out]) | (go_at_call 126;(with_reducible refine (r07_digit_c y _).mono ?_);rintro e2 w2 ⟨rfl,rfl⟩;rw[HY.out]))
 first
  |go_ret
   exact⟨AX UK,rfl⟩
  |go_meet
   exact⟨_,rfl,rfl,J HQ.out,rfl⟩):P:=h
theorem r07_Tag_c (s:ByteArray) (w:Ab) :
  Af A8 125 #[.string s] w fun e w'=>e=.returned (.bool (Rc.tagOk s.data.toList))/\w=w':=by
 by_cases h3:s.size=3
 ·obtain⟨x,y,z,rfl⟩:=Rc.three h3;clear h3;have hq:Rc.tagOk [x,y,z]=(GW x&&GW y&&GW z&&!decide ([x,y,z]<([48,49,48]:List UInt8))):=rfl;have e0:∀ h,(⟨#[x,y,z]⟩:ByteArray)[0]'h=x:=fun _=>rfl;have e1:∀ h,(⟨#[x,y,z]⟩:ByteArray)[1]'h=y:=fun _=>rfl;have e2:∀ h,(⟨#[x,y,z]⟩:ByteArray)[2]'h=z:=fun _=>rfl;have es:(⟨#[x,y,z]⟩:ByteArray).size=3:=rfl;cases hx:GW x with
  | false =>
   rw[hx]at hq;have HQ:=J hq;clear hq;have HX:=J hx;clear hx;go_enter Mm,Ls;go_wp2_with (go_at_call 126;refine (r07_digit_c x _).mono ?_;rintro e w' ⟨rfl,rfl⟩;rw[HX.out]);go_ret;exact⟨AX UK,rfl⟩
  | true =>
   cases hy:GW y with
   | false =>
    rw[hx,hy]at hq;have HQ:=J hq;clear hq;have HX:=J hx;clear hx;have HY:=J hy;clear hy;go_enter Mm,Ls;exact vs6
   | true =>
    cases hz:GW z with
    | false =>
     exact vax
    | true =>
     exact vax
 ·have HQ:=J (show Rc.tagOk s.data.toList=false by unfold Rc.tagOk;rw[<- Ao];simp[h3]);have hs:((s.size:Int) == 3)=false:=by simp;omega
  clear h3;go_enter Mm,Ls;go_wp2;exact yhx
theorem yuz (h:P:=by
 have HQ:=J hv;clear hv hq;have HX:=J dx;clear dx x2;have HY:=J dy;clear dy y2;exact vs6):P:=h
theorem yi9 (h:P:=by
 have HQ:=J hv;clear hv hq;clear x2;have HY:=J dy;clear dy y2;go_wp2_with (first | (go_at_call 126;(with_reducible refine (r07_digit_c y _).mono ?_);rintro e2 w2 ⟨rfl,rfl⟩;rw[HY.out]));go_meet;exact⟨_,rfl,rfl,J HQ.out,rfl⟩):P:=h
theorem y4i (h:P:=by
 go_wp2_with (first | (go_at_call 126;(with_reducible refine (r07_digit_c x _).mono ?_);rintro e1 w1 ⟨rfl,rfl⟩;rw[HX.out]));go_meet;exact⟨_,rfl,rfl,J HQ.out,rfl⟩):P:=h
theorem ycj (h:P:=by
 go_wp2_with (go_at_call 127;refine (r07_Code_c x.1 _).mono ?_;rintro e w1 ⟨rfl,rfl⟩;rw[HC.out]);go_ret;exact⟨AV HF.out.symm,hbw2⟩):P:=h
theorem vtt (h:P:=by
 go_wp2_with (first
  |(go_at_call 127;refine (r07_Code_c x.1 _).mono ?_;rintro e w1 ⟨rfl,rfl⟩;rw[HC.out])
  |(go_at_call 122;refine (r01_Valid_c x.2 _ oQ).mono ?_;rintro e w2 ⟨rfl,hb3⟩;rw[HV.out];have q1:=A4 hb3 (show (wr.alloc (.cells #[.int .u8 x.1.toNat,.string x.2] 96)).cell? ⟨wr.heap.size,1,none⟩=some (.string x.2) by simp)))
 first
  |go_roundw
   case rel=>exact⟨k+1,oQ,by go_num,HN,Ac hb2 hb3⟩
   case measure=>simp[intOf];omega
  |go_ret
   exact⟨AV HF.out.symm,Ac hbw2 hb3⟩):P:=h
theorem r07_Right_c (f:Rc.Fl) (a:Option Addr) (c:Nat) (w:Ab) (h:Rc.SubA w a c f.subs) (hz:∀ x∈f.subs,x.2.size<=1000000) :
  Af A8 58 #[.agg #[.string f.tag,.string f.ind,.slice a f.subs.length c,.int .i64 f.auth]] w fun e w'=>e=.returned (.int .i64 (GL f))/\Below w.heap.size w w':=by
 obtain⟨W,hW,hB,c0,c1,c2,c3⟩:=zal;have hS:=zfw;have hcap:=h.cap;have hmx:maxLen=9223372036854775807:=rfl;have hmax:=h.max;have HZ:=J hz;clear hz;cases ht:Rc.tagOk f.tag.data.toList with
 | false =>
  have HE:=J (Rc.fieldE_6 ht);have HT:=J ht;clear ht;go_enter Tryz.func58,Tryz.ntmps58;go_wp2_with (go_at_call 125;refine (r07_Tag_c f.tag _).mono ?_;rintro e w1 ⟨rfl,rfl⟩;rw[HT.out]);go_ret;exact⟨AV HE.out.symm,hB⟩
 | true =>
  have HT:=J ht;clear ht;go_enter Tryz.func58,Tryz.ntmps58;go_upto_region 3 with (go_at_call 125;refine (r07_Tag_c f.tag _).mono ?_;rintro e w1 ⟨rfl,rfl⟩;rw[HT.out]);go_cut [2,38] (fun r t wx=>∃ b,r=.int .i64 0/\t=.bool b/\Hid (Rc.indOk f.ind.data.toList=!b)/\W=wx)
  case first =>
   by_cases h2:f.ind.size=2
   ·obtain⟨x,hx⟩:∃ x,f.ind.data.toList.getD 0 0=x:=⟨_,rfl⟩;obtain⟨y,hy⟩:∃ y,f.ind.data.toList.getD 1 0=y:=⟨_,rfl⟩;have e0:∀ h,f.ind[0]'h=x:=fun h=>by rw[<- hx,F0 f.ind 0 h]
    have e1:∀ h,f.ind[1]'h=y:=fun h=>by rw[<- hy,F0 f.ind 1 h]
    have hq:Rc.indOk f.ind.data.toList=(Rc.indB x&&Rc.indB y):=by unfold Rc.indOk;rw[hx,hy,<- Ao,h2];rfl
    clear hx hy;by_cases x2:x.toNat=32
    ·have gx:((x.toNat:Int) != 32)=false:=by simp;omega
     by_cases y2:y.toNat=32
     ·have gy:((y.toNat:Int) != 32)=false:=by simp;omega
      have hv:=zdl;have HQ:=J hv;clear hv hq;clear x2;clear y2;go_wp2;go_meet;exact⟨_,rfl,rfl,J HQ.out,rfl⟩
     ·have gy:((y.toNat:Int) != 32)=true:=by simp;omega
      cases dy:GW y with
      | true =>
       have hv:=zdl;exact yi9
      | false =>
       have hv:=zgc;exact yi9
    ·have gx:((x.toNat:Int) != 32)=true:=by simp;omega
     cases dx:GW x with
     | true =>
      by_cases y2:y.toNat=32
      ·have gy:((y.toNat:Int) != 32)=false:=by simp;omega
       have hv:=zdl;have HQ:=J hv;clear hv hq;have HX:=J dx;clear dx x2;clear y2;exact y4i
      ·have gy:((y.toNat:Int) != 32)=true:=by simp;omega
       cases dy:GW y with
       | true =>
        have hv:=zdl;exact yuz
       | false =>
        have hv:=zgc;exact yuz
     | false =>
      have hv:=zgc;have HQ:=J hv;clear hv hq;have HX:=J dx;clear dx x2;exact y4i
   ·have HQ:=J (show Rc.indOk f.ind.data.toList=false by unfold Rc.indOk;rw[<- Ao];simp[h2]);have gs:((f.ind.size:Int) != 2)=true:=by simp;omega
    clear h2;go_wp2;go_meet;exact⟨_,rfl,rfl,J HQ.out,rfl⟩
  case rest =>
   obtain⟨b,rfl,rfl,hbi,rfl⟩:=hcut;have hi:=hbi.out;clear hbi;cases b with
   | true =>
    rw[Bool.not_true]at hi;have HE:=J (Rc.fieldE_3 HT.out hi);clear hi;go_wp2;go_ret;exact⟨AV HE.out.symm,hB⟩
   | false =>
    rw[Bool.not_false]at hi;by_cases h0:f.subs.length=0
    ·have HE:=J (Rc.fieldE_8 HT.out hi h0);clear hi;go_wp2;go_ret;exact⟨AV HE.out.symm,hB⟩
    ·by_cases h16:16<f.subs.length
     ·have HE:=J (Rc.fieldE_4 HT.out hi h16);clear hi;go_wp2;go_ret;exact⟨AV HE.out.symm,hB⟩
     ·have hmid:=Rc.fieldE_mid HT.out hi h0 oQ;have h0':0<f.subs.length:=oQ;have h16':f.subs.length<=16:=oQ;have HM:=J hmid;have q0:((f.subs.length:Int) == 0)=false:=beq_eq_false_iff_ne.2 oQ;clear hi hmid h0 h16;obtain⟨E,hE⟩:∃ E,Rc.firstE (f.subs.map Rc.subE)=E:=⟨_,rfl⟩;have HE:=J hE;clear hE;go_wp2;go_loopw [3,4] (fun i _ wr=>∃ (k:Nat),k<=f.subs.length/\i=.int .i64 k/\Hid (Rc.firstE ((f.subs.map Rc.subE).drop k)=E)/\Below W.heap.size W wr) (fun i _ _=>f.subs.length - (intOf i).toNat)
      case atStart=>exact⟨0,Am _,rfl,J (by rw[AU,HE.out]),Below.refl _ _⟩
      case round =>
       obtain⟨k,hk,rfl,hI,hb⟩:=hrel;have hbw:=znd;replace c2:=A4 hb c2;replace c3:=A4 hb c3;clear c0 c1;by_cases hlt:k<f.subs.length
       ·obtain⟨x,hx⟩:=zdb;have hzx:=zhc;obtain⟨b,o,rfl,hbl,d0,d1⟩:=hS.get hx;replace d0:=A4 hb d0;replace d1:=A4 hb d1;obtain⟨s0,s1⟩:=Rc.sub_step hx hI.out;have hbn:=Tx.newb wr (.cells #[.int .u8 x.1.toNat,.string x.2] 96);have hb2:=Ac hb hbn;have hbw2:=Ac hbw hbn;clear hx hI;cases hc:Lw x.1 with
        | false =>
         have e1:=Rc.subE_1 hc;have HF:=J (show GL f=1 by rw[HM.out,HE.out,s1 qW,e1];rfl);have HC:=J hc;clear hc e1 s0 s1;exact ycj
        | true =>
         by_cases he:x.2.data.toList=[]
         ·have e1:=Rc.subE_8 hc he;have HF:=J (show GL f=8 by rw[HM.out,HE.out,s1 qW,e1];rfl);have hem:x.2.toList.isEmpty=true:=by rw[AG,he];rfl
          have HC:=J hc;clear hc e1 s0 s1 he;exact ycj
         ·have hem:x.2.toList.isEmpty=false:=by rw[AG];simpa using he
          cases hv:Tx.valid x.2.data.toList with
          | false =>
           have e1:=Rc.subE_3 hc he hv;have HF:=J (show GL f=3 by rw[HM.out,HE.out,s1 qW,e1];rfl);have HC:=J hc;have HV:=J hv;clear hc e1 s0 s1 he hv
           go_wp2_with (first
            |(go_at_call 127;refine (r07_Code_c x.1 _).mono ?_;rintro e w1 ⟨rfl,rfl⟩;rw[HC.out])
            |(go_at_call 122;refine (r01_Valid_c x.2 _ oQ).mono ?_;rintro e w2 ⟨rfl,hb3⟩;rw[HV.out]))
           go_ret;exact⟨AV HF.out.symm,Ac hbw2 hb3⟩
          | true =>
           by_cases hz:200<x.2.size
           ·have e1:=Rc.subE_4 hc he hv hz;have HF:=J (show GL f=4 by rw[HM.out,HE.out,s1 qW,e1];rfl);have HC:=J hc;have HV:=J hv;clear hc e1 s0 s1 he hv;exact vtt
           ·have e1:=Rc.subE_0 hc he hv oQ;have HN:=J (s0 e1);have HC:=J hc;have HV:=J hv;have hz2:x.2.size<=200:=oQ;clear hc e1 s0 s1 he hv hz;exact vtt
       ·obtain rfl:k=f.subs.length:=oQ
        have hE0:E=0:=by
         rw[<- hI.out,AS uB];rfl
        have hf2:GL f=if f.auth<0\/9999<f.auth then 2 else 0:=by rw[HM.out,HE.out,hE0];rfl
        clear hE0 hI;by_cases g1:f.auth<0
        ·have HF:=J (show GL f=2 by rw[hf2,if_pos (.inl g1)]);clear hf2;go_wp2;go_ret;exact⟨AV HF.out.symm,hbw⟩
        ·by_cases g2:9999<f.auth
         ·have HF:=J (show GL f=2 by rw[hf2,if_pos (.inr g2)]);clear hf2;have g1':0<=f.auth:=oQ;go_wp2;go_ret;exact⟨AV HF.out.symm,hbw⟩
         ·have HF:=J (show GL f=0 by rw[hf2,if_neg oQ]);clear hf2;have g1':0<=f.auth:=oQ;have g2':f.auth<=9999:=oQ;go_wp2;go_ret;exact⟨AV HF.out.symm,hbw⟩
namespace Rc
theorem recE_2 {r:Rd} (h:r.id<0\/9999<r.id):recE r=2:=by unfold recE;rw[if_pos h]
theorem recE_20 {r:Rd} (h:¬ (r.id<0\/9999<r.id)) (h2:r.ver<1\/3<r.ver):recE r=20:=by unfold recE;rw[if_neg h,if_pos h2]
theorem recE_1 {r:Rd} (h:¬ (r.id<0\/9999<r.id)) (h2:¬ (r.ver<1\/3<r.ver)) (h3:r.kind<1\/4<r.kind):recE r=1:=by unfold recE;rw[if_neg h,if_neg h2,if_pos h3]
theorem recE_3 {r:Rd} (h:¬ (r.id<0\/9999<r.id)) (h2:¬ (r.ver<1\/3<r.ver)) (h3:¬ (r.kind<1\/4<r.kind)) (h4:r.lang.data.toList.length≠3):recE r=3:=by unfold recE;rw[if_neg h,if_neg h2,if_neg h3,if_pos h4]
theorem recE_3b {r:Rd} (h:¬ (r.id<0\/9999<r.id)) (h2:¬ (r.ver<1\/3<r.ver)) (h3:¬ (r.kind<1\/4<r.kind)) (h4:r.lang.data.toList.length=3) (h5:langOk r.lang.data.toList=false):recE r=3:=by
 unfold recE;rw[if_neg h,if_neg h2,if_neg h3,if_neg oQ,if_pos h5]
theorem recE_4 {r:Rd} (h:¬ (r.id<0\/9999<r.id)) (h2:¬ (r.ver<1\/3<r.ver)) (h3:¬ (r.kind<1\/4<r.kind)) (h4:r.lang.data.toList.length=3) (h5:langOk r.lang.data.toList=true) (h6:64<r.fields.length):recE r=4:=by
 unfold recE;rw[if_neg h,if_neg h2,if_neg h3,if_neg oQ,if_neg (by simp[h5]),if_pos h6]
theorem recE_f {r:Rd} (h:¬ (r.id<0\/9999<r.id)) (h2:¬ (r.ver<1\/3<r.ver)) (h3:¬ (r.kind<1\/4<r.kind)) (h4:r.lang.data.toList.length=3) (h5:langOk r.lang.data.toList=true) (h6:¬ 64<r.fields.length):recE r=firstE (r.fields.map fieldE):=by
 unfold recE;rw[if_neg h,if_neg h2,if_neg h3,if_neg oQ,if_neg (by simp[h5]),if_neg h6]
theorem fld_step {l:List Fl}{k:Nat}{x:Fl}{n:Int} (h:l[k]?=some x) (hd:firstE ((l.map fieldE).drop k)=n):(fieldE x=0->firstE ((l.map fieldE).drop (k+1))=n)/\(fieldE x≠0->n=fieldE x):=by
 have:=firstE_step (l:=l.map fieldE) (k:=k) (e:=fieldE x) (by rw[List.getElem?_map,h];rfl);rw[hd]at this;exact⟨fun h0=>by rw[if_pos h0]at this;exact this.symm,fun h0=>by rw[if_neg h0]at this;exact this⟩
theorem lang_at {s:ByteArray}{k:Nat} (h:k<3) (hl:lowB (s.data.toList.getD k 0)=false):langOk s.data.toList=false:=by
 unfold langOk
 match k,h with
 | 0,_=>rw[hl];rfl
 | 1,_=>rw[hl];simp
 | 2,_=>rw[hl];simp
theorem lang_all {s:ByteArray} (h:∀ k,k<3->lowB (s.data.toList.getD k 0)=true):langOk s.data.toList=true:=by
 unfold langOk;rw[h 0 oQ,h 1 oQ,h 2 oQ];rfl
end Rc
theorem yv3 (h:P:=by
 go_enter IL,I5;go_wp2;go_ret;exact⟨AV HE.out.symm,hB⟩):P:=h
theorem r08_Right_c (fs:List Rc.Fl) (a:Option Addr) (c:Nat) (id ver kind:Int) (lang:ByteArray) (w:Ab) (h:Rc.FldA w a c fs) (hz:∀ f∈fs,∀ x∈f.subs,x.2.size<=1000000) :
  Af A8 24 #[.agg #[.int .i64 id,.int .i64 ver,.int .i64 kind,.string lang,.slice a fs.length c]] w fun e w'=>e=.returned (.int .i64 (Rc.recE ⟨id,ver,kind,lang,fs⟩))/\Below w.heap.size w w':=by
 obtain⟨W,hW,hB,c0,c1,c2,c3,c4⟩:=zb;have hS:=zfw;have hcap:=h.cap;have hmx:maxLen=9223372036854775807:=rfl;have hmax:=h.max;have HZ:=J hz;clear hz;by_cases i1:id<0
 ·have HE:=J (Rc.recE_2 (r:=⟨id,ver,kind,lang,fs⟩) (.inl i1));exact yv3
 ·have i1':0<=id:=oQ;clear i1;by_cases i2:9999<id
  ·have HE:=J (Rc.recE_2 (r:=⟨id,ver,kind,lang,fs⟩) (.inr i2));exact yv3
  ·have i2':id<=9999:=oQ;clear i2;have J1:=J (show ¬ (id<0\/9999<id) by omega);by_cases v1:ver<1
   ·have HE:=J (Rc.recE_20 (r:=⟨id,ver,kind,lang,fs⟩) J1.out (.inl v1));exact yv3
   ·have v1':1<=ver:=oQ;clear v1;by_cases v2:3<ver
    ·have HE:=J (Rc.recE_20 (r:=⟨id,ver,kind,lang,fs⟩) J1.out (.inr v2));exact yv3
    ·have v2':ver<=3:=oQ;clear v2;have J2:=J (show ¬ (ver<1\/3<ver) by omega);by_cases k1:kind<1
     ·have HE:=J (Rc.recE_1 (r:=⟨id,ver,kind,lang,fs⟩) J1.out J2.out (.inl k1));exact yv3
     ·have k1':1<=kind:=oQ;clear k1;by_cases k2:4<kind
      ·have HE:=J (Rc.recE_1 (r:=⟨id,ver,kind,lang,fs⟩) J1.out J2.out (.inr k2));exact yv3
      ·have k2':kind<=4:=oQ;clear k2;have J3:=J (show ¬ (kind<1\/4<kind) by omega);by_cases l3:lang.size=3
       ·have J4:=J (show lang.data.toList.length=3 by rw[<- Ao];exact l3);have q1:decide ((9999:Int)<id)=false:=decide_eq_false oQ;have q2:decide ((3:Int)<ver)=false:=decide_eq_false oQ;have q3:decide ((4:Int)<kind)=false:=decide_eq_false oQ;go_enter IL,I5;go_wp2;clear hW;go_loop [3] (fun i=>∃ (k:Nat),k<=3/\i=.int .i64 k/\Hid (∀ j,j<k->Rc.lowB (lang.data.toList.getD j 0)=true)) (fun i=>3 - (intOf i).toNat)
        case atStart=>exact⟨0,oQ,rfl,J (fun j hj=>absurd hj oQ)⟩
        case round =>
         obtain⟨k,hk,rfl,hE⟩:=hrel;by_cases hlt:k<3
         ·obtain⟨x,hx⟩:∃ x,lang.data.toList.getD k 0=x:=⟨_,rfl⟩;have e0:∀ h,lang[k]'h=x:=fun h=>by rw[<- hx,F0 lang k h]
          by_cases g1:97<=x.toNat
          ·by_cases g2:x.toNat<=122
           ·have hE2:Hid (∀ j,j<k+1->Rc.lowB (lang.data.toList.getD j 0)=true):=J (fun j hj=>by
             rcases Nat.lt_or_ge j k with h1 | h1
             ·exact hE.out j h1
             ·obtain rfl:j=k:=oQ;rw[hx];exact decide_eq_true ⟨g1,g2⟩)
            have g1':(97:Int)<=(x.toNat:Int):=oQ;have g2':(x.toNat:Int)<=122:=oQ;clear hx;exact yrm
           ·have HE:=zcx;have g1':(97:Int)<=(x.toNat:Int):=oQ;have g2':(122:Int)<(x.toNat:Int):=oQ;clear hx;go_wp2;go_ret;exact⟨AV HE.out.symm,hB⟩
          ·have HE:=zcx;have g1':(x.toNat:Int)<97:=oQ;clear hx;go_wp2;go_ret;exact⟨AV HE.out.symm,hB⟩
         ·obtain rfl:k=3:=oQ;have J5:=J (Rc.lang_all hE.out);by_cases f6:64<fs.length
          ·have HE:=J (Rc.recE_4 (r:=⟨id,ver,kind,lang,fs⟩) J1.out J2.out J3.out J4.out J5.out f6);go_wp2;go_ret;exact⟨AV HE.out.symm,hB⟩
          ·have HF:=J (Rc.recE_f (r:=⟨id,ver,kind,lang,fs⟩) J1.out J2.out J3.out J4.out J5.out f6);have f6':fs.length<=64:=oQ;have q6:decide ((64:Int)<(fs.length:Int))=false:=decide_eq_false oQ;clear f6;obtain⟨E,hEE⟩:∃ E,Rc.firstE (fs.map GL)=E:=⟨_,rfl⟩;have HE:=J hEE;clear hEE hE;go_wp2;go_loopw [4,5] (fun i _ wr=>∃ (k:Nat),k<=fs.length/\i=.int .i64 k/\Hid (Rc.firstE ((fs.map GL).drop k)=E)/\Below W.heap.size W wr) (fun i _ _=>fs.length - (intOf i).toNat)
           case atStart=>exact⟨0,Am _,rfl,J (by rw[AU,HE.out]),Below.refl _ _⟩
           case round =>
            obtain⟨k,hk,rfl,hI,hb⟩:=hrel;have hbw:=znd;replace c4:=A4 hb c4;clear c0 c1 c2 c3;by_cases hlt:k<fs.length
            ·obtain⟨f,hf⟩:=zah;have HZF:=J (HZ.out f (AJ hf));obtain⟨b,o,sa,sc,rfl,hbl,d0,d1,d2,d3,hsub⟩:=hS.get hf;replace d0:=A4 hb d0;replace d1:=A4 hb d1;replace d2:=A4 hb d2;replace d3:=A4 hb d3;have hsub2:=hsub.below hb;obtain⟨s0,s1⟩:=Rc.fld_step hf hI.out;clear hf hI;obtain⟨n,hn⟩:∃ n,GL f=n:=⟨_,rfl⟩;rw[hn]at s0 s1;have HN:=J hn;clear hn;by_cases n0:n=0
             ·have HS:=J (s0 n0);have nq:(n != 0)=false:=by simpa using n0
              clear s0 s1 n0;go_wp2_with (go_at_call 58;refine (r07_Right_c f sa sc _ hsub2 HZF.out).mono ?_;rintro e w1 ⟨rfl,hb1⟩;rw[HN.out]);go_roundw
              case rel=>exact⟨k+1,oQ,by go_num,HS,Ac hb hb1⟩
              case measure=>simp[intOf];omega
             ·have HS:=J (show Rc.recE ⟨id,ver,kind,lang,fs⟩=n by rw[HF.out,HE.out,s1 n0]);have nq:(n != 0)=true:=by simpa using n0
              clear s0 s1 n0;go_wp2_with (go_at_call 58;refine (r07_Right_c f sa sc _ hsub2 HZF.out).mono ?_;rintro e w1 ⟨rfl,hb1⟩;rw[HN.out]);go_ret;exact⟨AV HS.out.symm,Ac hbw hb1⟩
            ·obtain rfl:k=fs.length:=oQ
             have HS:=J (show Rc.recE ⟨id,ver,kind,lang,fs⟩=0 by
              rw[HF.out,HE.out,<- hI.out,AS uB];rfl)
             clear hI;go_wp2;go_ret;exact⟨AV HS.out.symm,hbw⟩
       ·have HE:=J (Rc.recE_3 (r:=⟨id,ver,kind,lang,fs⟩) J1.out J2.out J3.out (by rw[<- Ao];exact l3));have ls:((lang.size:Int) != 3)=true:=by simp;omega
        clear l3;exact yv3
end Go.Proofs.YtlakomilichhnaaGreatDoor
