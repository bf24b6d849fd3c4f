/- Texts of this seat's, what the claim needs of them. -/
import Derived.Test.YtlakomilichhnaaGreatDoorZOd
import Derived.Test.YtlakomilichhnaaGreatDoorYXOl
import Derived.Test.YtlakomilichhnaaGreatDoorYXShelf
import Derived.Test.YtlakomilichhnaaGreatDoorYXOb
import Derived.Sort.Walk0
import Derived.Deep.DeepCutAuto
namespace Go.Proofs.YtlakomilichhnaaGreatDoor
set_option maxHeartbeats 3200000
set_option maxRecDepth 100000
open Go.RowKit
open Go renaming Calls→Ac,World→A9,cell_later→A0
open Lib renaming hid→J,size_eq→Ak,toList_data→AA
open List renaming drop_eq_nil_of_le→AB,drop_zero→AM,getElem?_eq_getElem→A7,length_map→At,mem_of_getElem?→Ag,take_length→Ap
open Nat renaming zero_le→Ae
open Option renaming none→A4,some→A2
open Proofs.Tryz renaming func125→E7,func126→Gm,func127→EV,func23→Ki,func24→CH,func57→Kh,func58→Kj,ntmps125→DQ,ntmps126→Zx,ntmps127→EG,ntmps23→JA,ntmps24→Cu,ntmps57→Jz,ntmps58→JB,prog→A3
open Rc renaming codeB→D5,digB→BP,fieldE→C5,firstE→Gg,indB→DT,indOk→Ct,lowB→Gt,smallF→Gf,tagOk→FJ
open RowKit renaming Below→A6,intOf→Ad
open Tx renaming getD_at→Dn,newb→Aa,ret1→Av,retb→Ay,step→A8
namespace Rc
theorem all_take {α:Type}{p:α→Prop}{l:List α}{k:Nat}{x:α} (h:l[k]?=A2 x) (hp:p x) (ha:∀ y∈l.take k,p y):∀ y∈l.take (k+1),p y:=by
 intro y hy
 rw[List.take_add_one,h,List.mem_append]at hy
 rcases hy with hy | hy
 ·exact ha y hy
 ·simp at hy;rw[hy];exact hp
theorem smallF_true {f:Fl} (h1:f.subs.length≤20) (h2:∀ x∈f.subs,x.2.size≤300):smallF f=true:=decide_eq_true ⟨h1,h2⟩
theorem smallF_len {f:Fl} (h1:¬ f.subs.length≤20):smallF f=false:=decide_eq_false fun h=>h1 h.1
theorem smallF_at {f:Fl}{k:Nat}{x:UInt8 × ByteArray} (h:f.subs[k]?=A2 x) (h2:¬ x.2.size≤300):smallF f=false:=decide_eq_false fun h9=>h2 (h9.2 x (Ag h))
theorem smallR_true {fs:List Fl} (h1:fs.length≤70) (h2:∀ f∈fs,smallF f=true):smallR fs=true:=decide_eq_true ⟨h1,h2⟩
theorem smallR_len {fs:List Fl} (h1:¬ fs.length≤70):smallR fs=false:=decide_eq_false fun h=>h1 h.1
theorem smallR_at {fs:List Fl}{k:Nat}{f:Fl} (h:fs[k]?=A2 f) (h2:smallF f=false):smallR fs=false:=decide_eq_false fun h9=>by have:=h9.2 f (Ag h);rw[h2]at this;cases this
end Rc
theorem SmallField_c (f:Rc.Fl) (a:Option Addr) (c:Nat) (w:A9) (h:Rc.SubA w a c f.subs) :
  Ac A3 57 #[.agg #[.string f.tag,.string f.ind,.slice a f.subs.length c,.int .i64 f.auth]] w fun e w'=>e=.returned (.bool (Gf f))∧A6 w.heap.size w w':=by
 obtain⟨W,hW⟩:∃ W,w.alloc (.cells #[.string f.tag,.string f.ind,.slice a f.subs.length c,.int .i64 f.auth] 84)=W:=⟨_,rfl⟩
 have hB:A6 w.heap.size w W:=by rw[← hW];exact Aa _ _
 have c2:W.cell? ⟨w.heap.size,2,A4⟩=A2 (.slice a f.subs.length c):=by rw[← hW];simp
 have hS:=h.below hB
 have hcap:=h.cap
 have hmx:maxLen=9223372036854775807:=rfl
 have hmax:=h.max
 by_cases hl:f.subs.length≤20
 ·go_enter Kh,Jz
  go_wp2
  clear hW
  go_loop [3] (fun i=>∃ (k:Nat),k≤f.subs.length∧i=.int .i64 k∧Hid (∀ x∈f.subs.take k,x.2.size≤300)) (fun i=>f.subs.length - (Ad i).toNat)
  case atStart=>exact⟨0,Ae _,rfl,J (by simp)⟩
  case round =>
   obtain⟨k,hk,rfl,hE⟩:=hrel
   by_cases hlt:k<f.subs.length
   ·obtain⟨x,hx⟩:∃ x,f.subs[k]?=A2 x:=⟨_,A7 hlt⟩
    obtain⟨b,o,rfl,hbl,d0,d1⟩:=hS.get hx
    have HX:=J hx;clear hx
    by_cases hz:x.2.size≤300
    ·have hE2:=J (Rc.all_take HX.out hz hE.out)
     go_wp2
     go_round
     case rel=>exact⟨k+1,by omega,by go_num,hE2⟩
     case measure=>simp[Ad];omega
    ·have HF:=J (Rc.smallF_at HX.out hz)
     go_wp2
     go_ret
     exact⟨Ay HF.out.symm,hB⟩
   ·obtain rfl:k=f.subs.length:=by omega
    have hE2:=hE.out
    rw[Ap]at hE2
    have HF:=J (Rc.smallF_true hl hE2)
    clear hE2
    go_wp2
    go_ret
    exact⟨Ay HF.out.symm,hB⟩
 ·have HF:=J (Rc.smallF_len hl)
  go_enter Kh,Jz
  go_wp2
  clear hW
  go_ret
  exact⟨Ay HF.out.symm,hB⟩
theorem Small_c (fs:List Rc.Fl) (a:Option Addr) (c:Nat) (id ver kind:Int) (lang:ByteArray) (w:A9) (h:Rc.FldA w a c fs) :
  Ac A3 23 #[.agg #[.int .i64 id,.int .i64 ver,.int .i64 kind,.string lang,.slice a fs.length c]] w fun e w'=>e=.returned (.bool (Rc.smallR fs))∧A6 w.heap.size w w':=by
 obtain⟨W,hW⟩:∃ W,w.alloc (.cells #[.int .i64 id,.int .i64 ver,.int .i64 kind,.string lang,.slice a fs.length c] 51)=W:=⟨_,rfl⟩
 have hB:A6 w.heap.size w W:=by rw[← hW];exact Aa _ _
 have c4:W.cell? ⟨w.heap.size,4,A4⟩=A2 (.slice a fs.length c):=by rw[← hW];simp
 have hWs:w.heap.size<W.heap.size:=by rw[← hW];simp
 have hcap:=h.cap
 have hmx:maxLen=9223372036854775807:=rfl
 have hmax:=h.max
 by_cases hl:fs.length≤70
 ·go_enter Ki,JA
  go_wp2
  clear hW
  go_loopw [3] (fun i wr=>∃ (k:Nat),k≤fs.length∧i=.int .i64 k∧Hid (∀ f∈fs.take k,Gf f=true)∧A6 W.heap.size W wr) (fun i _=>fs.length - (Ad i).toNat)
  case atStart=>exact⟨0,Ae _,rfl,J (by simp),Below.refl _ _⟩
  case round =>
   obtain⟨k,hk,rfl,hE,hb⟩:=hrel
   have hbw:=A8 hB hb
   replace c4:=A0 hb c4
   by_cases hlt:k<fs.length
   ·obtain⟨f,hf⟩:∃ f,fs[k]?=A2 f:=⟨_,A7 hlt⟩
    obtain⟨b,o,sa,sc,rfl,hbl,d0,d1,d2,d3,hsub⟩:=h.get hf
    replace d0:=A0 hbw d0
    replace d1:=A0 hbw d1
    replace d2:=A0 hbw d2
    replace d3:=A0 hbw d3
    have hsub2:=hsub.below hbw
    have HF:=J hf;clear hf
    cases hz:Gf f with
    | true =>
     have hE2:=J (Rc.all_take HF.out hz hE.out)
     have HZ:=J hz;clear hz
     go_wp2_with (go_at_call 57;refine (SmallField_c f sa sc _ hsub2).mono ?_;rintro e w1 ⟨rfl,hb1⟩;rw[HZ.out])
     go_roundw
     case rel=>exact⟨k+1,by omega,by go_num,hE2,A8 hb hb1⟩
     case measure=>simp[Ad];omega
    | false =>
     have HR:=J (Rc.smallR_at HF.out hz)
     have HZ:=J hz;clear hz
     go_wp2_with (go_at_call 57;refine (SmallField_c f sa sc _ hsub2).mono ?_;rintro e w1 ⟨rfl,hb1⟩;rw[HZ.out])
     go_ret
     exact⟨Ay HR.out.symm,A8 hbw hb1⟩
   ·obtain rfl:k=fs.length:=by omega
    have hE2:=hE.out
    rw[Ap]at hE2
    have HF:=J (Rc.smallR_true hl hE2)
    clear hE2
    go_wp2
    go_ret
    exact⟨Ay HF.out.symm,hbw⟩
 ·have HF:=J (Rc.smallR_len hl)
  go_enter Ki,JA
  go_wp2
  clear hW
  go_ret
  exact⟨Ay HF.out.symm,hB⟩
theorem r07_digit_c (x:UInt8) (w:A9) :
  Ac A3 126 #[.int .u8 x.toNat] w fun e w'=>e=.returned (.bool (BP x))∧w=w':=by
 by_cases h1:48≤x.toNat
 ·by_cases h2:x.toNat≤57
  ·have HQ:=J (show BP x=true by unfold BP;simp;omega)
   have g1:(48:Int)≤(x.toNat:Int):=by omega
   have g2:(x.toNat:Int)≤57:=by omega
   go_enter Gm,Zx
   go_wp2
   go_ret
   exact⟨Ay (by first | exact HQ.out.symm | (rw[HQ.out];simp;omega)),rfl⟩
  ·have HQ:=J (show BP x=false by unfold BP;simp;omega)
   have g1:(48:Int)≤(x.toNat:Int):=by omega
   have g2:(57:Int)<(x.toNat:Int):=by omega
   go_enter Gm,Zx
   go_wp2
   go_ret
   exact⟨Ay (by first | exact HQ.out.symm | (rw[HQ.out];simp;omega)),rfl⟩
 ·have HQ:=J (show BP x=false by unfold BP;simp;omega)
  have g1:(x.toNat:Int)<48:=by omega
  go_enter Gm,Zx
  go_wp2
  go_ret
  exact⟨Ay (by first | exact HQ.out.symm | (rw[HQ.out];simp;omega)),rfl⟩
theorem r07_Code_c (x:UInt8) (w:A9) :
  Ac A3 127 #[.int .u8 x.toNat] w fun e w'=>e=.returned (.bool (D5 x))∧w=w':=by
 cases hd:BP x with
 | true =>
  have HQ:=J (show D5 x=true by unfold D5;rw[hd];rfl)
  have HD:=J hd;clear hd
  go_enter EV,EG
  go_wp2_with (go_at_call 126;refine (r07_digit_c x _).mono ?_;rintro e w' ⟨rfl,rfl⟩;rw[HD.out])
  go_ret
  exact⟨Ay (by first | exact HQ.out.symm | (rw[HQ.out];simp;omega)),rfl⟩
 | false =>
  by_cases h1:97≤x.toNat
  ·by_cases h2:x.toNat≤122
   ·have HQ:=J (show D5 x=true by unfold D5 Gt;rw[hd];simp;omega)
    have g1:(97:Int)≤(x.toNat:Int):=by omega
    have g2:(x.toNat:Int)≤122:=by omega
    have HD:=J hd;clear hd
    go_enter EV,EG
    go_wp2_with (go_at_call 126;refine (r07_digit_c x _).mono ?_;rintro e w' ⟨rfl,rfl⟩;rw[HD.out])
    go_ret
    exact⟨Ay (by first | exact HQ.out.symm | (rw[HQ.out];simp;omega)),rfl⟩
   ·have HQ:=J (show D5 x=false by unfold D5 Gt;rw[hd];simp;omega)
    have g1:(97:Int)≤(x.toNat:Int):=by omega
    have g2:(122:Int)<(x.toNat:Int):=by omega
    have HD:=J hd;clear hd
    go_enter EV,EG
    go_wp2_with (go_at_call 126;refine (r07_digit_c x _).mono ?_;rintro e w' ⟨rfl,rfl⟩;rw[HD.out])
    go_ret
    exact⟨Ay (by first | exact HQ.out.symm | (rw[HQ.out];simp;omega)),rfl⟩
  ·have HQ:=J (show D5 x=false by unfold D5 Gt;rw[hd];simp;omega)
   have g1:(x.toNat:Int)<97:=by omega
   have HD:=J hd;clear hd
   go_enter EV,EG
   go_wp2_with (go_at_call 126;refine (r07_digit_c x _).mono ?_;rintro e w' ⟨rfl,rfl⟩;rw[HD.out])
   go_ret
   exact⟨Ay (by first | exact HQ.out.symm | (rw[HQ.out];simp;omega)),rfl⟩
namespace Rc
theorem three {s:ByteArray} (h:s.size=3):∃ x y z:UInt8,s=⟨#[x,y,z]⟩:=by
 obtain⟨⟨l⟩⟩:=s
 match l,h with
 | [x,y,z],_=>exact⟨x,y,z,rfl⟩
end Rc
theorem r07_Tag_c (s:ByteArray) (w:A9) :
  Ac A3 125 #[.string s] w fun e w'=>e=.returned (.bool (FJ s.data.toList))∧w=w':=by
 by_cases h3:s.size=3
 ·obtain⟨x,y,z,rfl⟩:=Rc.three h3
  clear h3
  have hq:FJ [x,y,z]=(BP x&&BP y&&BP z&&!decide ([x,y,z]<([48,49,48]:List UInt8))):=rfl
  have e0:∀ h,(⟨#[x,y,z]⟩:ByteArray)[0]'h=x:=fun _=>rfl
  have e1:∀ h,(⟨#[x,y,z]⟩:ByteArray)[1]'h=y:=fun _=>rfl
  have e2:∀ h,(⟨#[x,y,z]⟩:ByteArray)[2]'h=z:=fun _=>rfl
  have es:(⟨#[x,y,z]⟩:ByteArray).size=3:=rfl
  cases hx:BP x with
  | false =>
   rw[hx]at hq
   have HQ:=J hq;clear hq
   have HX:=J hx;clear hx
   go_enter E7,DQ
   go_wp2_with (go_at_call 126;refine (r07_digit_c x _).mono ?_;rintro e w' ⟨rfl,rfl⟩;rw[HX.out])
   go_ret
   exact⟨Ay (by rw[HQ.out];rfl),rfl⟩
  | true =>
   cases hy:BP y with
   | false =>
    rw[hx,hy]at hq
    have HQ:=J hq;clear hq
    have HX:=J hx;clear hx
    have HY:=J hy;clear hy
    go_enter E7,DQ
    go_wp2_with (first | (go_at_call 126;(with_reducible refine (r07_digit_c x _).mono ?_);rintro e1 w1 ⟨rfl,rfl⟩;rw[HX.out]) | (go_at_call 126;(with_reducible refine (r07_digit_c y _).mono ?_);rintro e2 w2 ⟨rfl,rfl⟩;rw[HY.out]))
    go_ret
    exact⟨Ay (by rw[HQ.out];rfl),rfl⟩
   | true =>
    cases hz:BP z with
    | false =>
     rw[hx,hy,hz]at hq
     have HQ:=J hq;clear hq
     have HX:=J hx;clear hx
     have HY:=J hy;clear hy
     have HZ:=J hz;clear hz
     go_enter E7,DQ
     go_wp2_with (first | (go_at_call 126;(with_reducible refine (r07_digit_c x _).mono ?_);rintro e1 w1 ⟨rfl,rfl⟩;rw[HX.out]) | (go_at_call 126;(with_reducible refine (r07_digit_c y _).mono ?_);rintro e2 w2 ⟨rfl,rfl⟩;rw[HY.out]) | (go_at_call 126;(with_reducible refine (r07_digit_c z _).mono ?_);rintro e3 w3 ⟨rfl,rfl⟩;rw[HZ.out]))
     go_ret
     exact⟨Ay (by rw[HQ.out];rfl),rfl⟩
    | true =>
     rw[hx,hy,hz]at hq
     have HQ:=J hq;clear hq
     have HX:=J hx;clear hx
     have HY:=J hy;clear hy
     have HZ:=J hz;clear hz
     go_enter E7,DQ
     go_wp2_with (first | (go_at_call 126;(with_reducible refine (r07_digit_c x _).mono ?_);rintro e1 w1 ⟨rfl,rfl⟩;rw[HX.out]) | (go_at_call 126;(with_reducible refine (r07_digit_c y _).mono ?_);rintro e2 w2 ⟨rfl,rfl⟩;rw[HY.out]) | (go_at_call 126;(with_reducible refine (r07_digit_c z _).mono ?_);rintro e3 w3 ⟨rfl,rfl⟩;rw[HZ.out]))
     go_ret
     exact⟨Ay (by rw[HQ.out];simp[Go.Proofs.bytesLess_eq]),rfl⟩
 ·have HQ:=J (show FJ s.data.toList=false by unfold FJ;rw[← Ak];simp[h3])
  have hs:((s.size:Int) == 3)=false:=by simp;omega
  clear h3
  go_enter E7,DQ
  go_wp2
  go_ret
  exact⟨Ay (by first | exact HQ.out.symm | (rw[HQ.out];simp;omega)),rfl⟩
theorem r07_Right_c (f:Rc.Fl) (a:Option Addr) (c:Nat) (w:A9) (h:Rc.SubA w a c f.subs) (hz:∀ x∈f.subs,x.2.size≤1000000) :
  Ac A3 58 #[.agg #[.string f.tag,.string f.ind,.slice a f.subs.length c,.int .i64 f.auth]] w fun e w'=>e=.returned (.int .i64 (C5 f))∧A6 w.heap.size w w':=by
 obtain⟨W,hW⟩:∃ W,w.alloc (.cells #[.string f.tag,.string f.ind,.slice a f.subs.length c,.int .i64 f.auth] 84)=W:=⟨_,rfl⟩
 have hB:A6 w.heap.size w W:=by rw[← hW];exact Aa _ _
 have c0:W.cell? ⟨w.heap.size,0,A4⟩=A2 (.string f.tag):=by rw[← hW];simp
 have c1:W.cell? ⟨w.heap.size,1,A4⟩=A2 (.string f.ind):=by rw[← hW];simp
 have c2:W.cell? ⟨w.heap.size,2,A4⟩=A2 (.slice a f.subs.length c):=by rw[← hW];simp
 have c3:W.cell? ⟨w.heap.size,3,A4⟩=A2 (.int .i64 f.auth):=by rw[← hW];simp
 have hS:=h.below hB
 have hcap:=h.cap
 have hmx:maxLen=9223372036854775807:=rfl
 have hmax:=h.max
 have HZ:=J hz;clear hz
 cases ht:FJ f.tag.data.toList with
 | false =>
  have HE:=J (Rc.fieldE_6 ht)
  have HT:=J ht;clear ht
  go_enter Kj,JB
  go_wp2_with (go_at_call 125;refine (r07_Tag_c f.tag _).mono ?_;rintro e w1 ⟨rfl,rfl⟩;rw[HT.out])
  go_ret
  exact⟨Av HE.out.symm,hB⟩
 | true =>
  have HT:=J ht;clear ht
  go_enter Kj,JB
  go_upto_region 3 with (go_at_call 125;refine (r07_Tag_c f.tag _).mono ?_;rintro e w1 ⟨rfl,rfl⟩;rw[HT.out])
  go_cut [2,38] (fun r t wx=>∃ b,r=.int .i64 0∧t=.bool b∧Hid (Ct f.ind.data.toList=!b)∧W=wx)
  case first =>
   by_cases h2:f.ind.size=2
   ·obtain⟨x,hx⟩:∃ x,f.ind.data.toList.getD 0 0=x:=⟨_,rfl⟩
    obtain⟨y,hy⟩:∃ y,f.ind.data.toList.getD 1 0=y:=⟨_,rfl⟩
    have e0:∀ h,f.ind[0]'h=x:=fun h=>by rw[← hx,Dn f.ind 0 h]
    have e1:∀ h,f.ind[1]'h=y:=fun h=>by rw[← hy,Dn f.ind 1 h]
    have hq:Ct f.ind.data.toList=(DT x&&DT y):=by unfold Ct;rw[hx,hy,← Ak,h2];rfl
    clear hx hy
    by_cases x2:x.toNat=32
    ·have gx:((x.toNat:Int) != 32)=false:=by simp;omega
     by_cases y2:y.toNat=32
     ·have gy:((y.toNat:Int) != 32)=false:=by simp;omega
      have hv:Ct f.ind.data.toList=true:=by rw[hq];unfold DT;simp[*]
      have HQ:=J hv;clear hv hq
      clear x2;clear y2
      go_wp2
      go_meet
      exact⟨_,rfl,rfl,J HQ.out,rfl⟩
     ·have gy:((y.toNat:Int) != 32)=true:=by simp;omega
      cases dy:BP y with
      | true =>
       have hv:Ct f.ind.data.toList=true:=by rw[hq];unfold DT;simp[*]
       have HQ:=J hv;clear hv hq
       clear x2;have HY:=J dy;clear dy y2
       go_wp2_with (first | (go_at_call 126;(with_reducible refine (r07_digit_c y _).mono ?_);rintro e2 w2 ⟨rfl,rfl⟩;rw[HY.out]))
       go_meet
       exact⟨_,rfl,rfl,J HQ.out,rfl⟩
      | false =>
       have hv:Ct f.ind.data.toList=false:=by rw[hq];unfold DT;simp[*]
       have HQ:=J hv;clear hv hq
       clear x2;have HY:=J dy;clear dy y2
       go_wp2_with (first | (go_at_call 126;(with_reducible refine (r07_digit_c y _).mono ?_);rintro e2 w2 ⟨rfl,rfl⟩;rw[HY.out]))
       go_meet
       exact⟨_,rfl,rfl,J HQ.out,rfl⟩
    ·have gx:((x.toNat:Int) != 32)=true:=by simp;omega
     cases dx:BP x with
     | true =>
      by_cases y2:y.toNat=32
      ·have gy:((y.toNat:Int) != 32)=false:=by simp;omega
       have hv:Ct f.ind.data.toList=true:=by rw[hq];unfold DT;simp[*]
       have HQ:=J hv;clear hv hq
       have HX:=J dx;clear dx x2;clear y2
       go_wp2_with (first | (go_at_call 126;(with_reducible refine (r07_digit_c x _).mono ?_);rintro e1 w1 ⟨rfl,rfl⟩;rw[HX.out]))
       go_meet
       exact⟨_,rfl,rfl,J HQ.out,rfl⟩
      ·have gy:((y.toNat:Int) != 32)=true:=by simp;omega
       cases dy:BP y with
       | true =>
        have hv:Ct f.ind.data.toList=true:=by rw[hq];unfold DT;simp[*]
        have HQ:=J hv;clear hv hq
        have HX:=J dx;clear dx x2;have HY:=J dy;clear dy y2
        go_wp2_with (first | (go_at_call 126;(with_reducible refine (r07_digit_c x _).mono ?_);rintro e1 w1 ⟨rfl,rfl⟩;rw[HX.out]) | (go_at_call 126;(with_reducible refine (r07_digit_c y _).mono ?_);rintro e2 w2 ⟨rfl,rfl⟩;rw[HY.out]))
        go_meet
        exact⟨_,rfl,rfl,J HQ.out,rfl⟩
       | false =>
        have hv:Ct f.ind.data.toList=false:=by rw[hq];unfold DT;simp[*]
        have HQ:=J hv;clear hv hq
        have HX:=J dx;clear dx x2;have HY:=J dy;clear dy y2
        go_wp2_with (first | (go_at_call 126;(with_reducible refine (r07_digit_c x _).mono ?_);rintro e1 w1 ⟨rfl,rfl⟩;rw[HX.out]) | (go_at_call 126;(with_reducible refine (r07_digit_c y _).mono ?_);rintro e2 w2 ⟨rfl,rfl⟩;rw[HY.out]))
        go_meet
        exact⟨_,rfl,rfl,J HQ.out,rfl⟩
     | false =>
      have hv:Ct f.ind.data.toList=false:=by rw[hq];unfold DT;simp[*]
      have HQ:=J hv;clear hv hq
      have HX:=J dx;clear dx x2
      go_wp2_with (first | (go_at_call 126;(with_reducible refine (r07_digit_c x _).mono ?_);rintro e1 w1 ⟨rfl,rfl⟩;rw[HX.out]))
      go_meet
      exact⟨_,rfl,rfl,J HQ.out,rfl⟩
   ·have HQ:=J (show Ct f.ind.data.toList=false by unfold Ct;rw[← Ak];simp[h2])
    have gs:((f.ind.size:Int) != 2)=true:=by simp;omega
    clear h2
    go_wp2
    go_meet
    exact⟨_,rfl,rfl,J HQ.out,rfl⟩
  case rest =>
   obtain⟨b,rfl,rfl,hbi,rfl⟩:=hcut
   have hi:=hbi.out
   clear hbi
   cases b with
   | true =>
    rw[Bool.not_true]at hi
    have HE:=J (Rc.fieldE_3 HT.out hi)
    clear hi
    go_wp2
    go_ret
    exact⟨Av HE.out.symm,hB⟩
   | false =>
    rw[Bool.not_false]at hi
    by_cases h0:f.subs.length=0
    ·have HE:=J (Rc.fieldE_8 HT.out hi h0)
     clear hi
     go_wp2
     go_ret
     exact⟨Av HE.out.symm,hB⟩
    ·by_cases h16:16<f.subs.length
     ·have HE:=J (Rc.fieldE_4 HT.out hi h16)
      clear hi
      go_wp2
      go_ret
      exact⟨Av HE.out.symm,hB⟩
     ·have hmid:=Rc.fieldE_mid HT.out hi h0 (by omega)
      have h0':0<f.subs.length:=by omega
      have h16':f.subs.length≤16:=by omega
      have HM:=J hmid
      have q0:((f.subs.length:Int) == 0)=false:=beq_eq_false_iff_ne.2 (by omega)
      clear hi hmid h0 h16
      obtain⟨E,hE⟩:∃ E,Gg (f.subs.map Rc.subE)=E:=⟨_,rfl⟩
      have HE:=J hE;clear hE
      go_wp2
      go_loopw [3,4] (fun i _ wr=>∃ (k:Nat),k≤f.subs.length∧i=.int .i64 k∧Hid (Gg ((f.subs.map Rc.subE).drop k)=E)∧A6 W.heap.size W wr) (fun i _ _=>f.subs.length - (Ad i).toNat)
      case atStart=>exact⟨0,Ae _,rfl,J (by rw[AM,HE.out]),Below.refl _ _⟩
      case round =>
       obtain⟨k,hk,rfl,hI,hb⟩:=hrel
       have hbw:=A8 hB hb
       replace c2:=A0 hb c2
       replace c3:=A0 hb c3
       clear c0 c1
       by_cases hlt:k<f.subs.length
       ·obtain⟨x,hx⟩:∃ x,f.subs[k]?=A2 x:=⟨_,A7 hlt⟩
        have hzx:=HZ.out x (Ag hx)
        obtain⟨b,o,rfl,hbl,d0,d1⟩:=hS.get hx
        replace d0:=A0 hb d0
        replace d1:=A0 hb d1
        obtain⟨s0,s1⟩:=Rc.sub_step hx hI.out
        have hbn:=Aa wr (.cells #[.int .u8 x.1.toNat,.string x.2] 96)
        have hb2:=A8 hb hbn
        have hbw2:=A8 hbw hbn
        clear hx hI
        cases hc:D5 x.1 with
        | false =>
         have e1:=Rc.subE_1 hc
         have HF:=J (show C5 f=1 by rw[HM.out,HE.out,s1 (by rw[e1];decide),e1];rfl)
         have HC:=J hc;clear hc e1 s0 s1
         go_wp2_with (go_at_call 127;refine (r07_Code_c x.1 _).mono ?_;rintro e w1 ⟨rfl,rfl⟩;rw[HC.out])
         go_ret
         exact⟨Av HF.out.symm,hbw2⟩
        | true =>
         by_cases he:x.2.data.toList=[]
         ·have e1:=Rc.subE_8 hc he
          have HF:=J (show C5 f=8 by rw[HM.out,HE.out,s1 (by rw[e1];decide),e1];rfl)
          have hem:x.2.toList.isEmpty=true:=by rw[AA,he];rfl
          have HC:=J hc;clear hc e1 s0 s1 he
          go_wp2_with (go_at_call 127;refine (r07_Code_c x.1 _).mono ?_;rintro e w1 ⟨rfl,rfl⟩;rw[HC.out])
          go_ret
          exact⟨Av HF.out.symm,hbw2⟩
         ·have hem:x.2.toList.isEmpty=false:=by rw[AA];simpa using he
          cases hv:Tx.valid x.2.data.toList with
          | false =>
           have e1:=Rc.subE_3 hc he hv
           have HF:=J (show C5 f=3 by rw[HM.out,HE.out,s1 (by rw[e1];decide),e1];rfl)
           have HC:=J hc
           have HV:=J hv
           clear hc e1 s0 s1 he hv
           go_wp2_with (first
            |(go_at_call 127;refine (r07_Code_c x.1 _).mono ?_;rintro e w1 ⟨rfl,rfl⟩;rw[HC.out])
            |(go_at_call 122;refine (r01_Valid_c x.2 _ (by omega)).mono ?_;rintro e w2 ⟨rfl,hb3⟩;rw[HV.out]))
           go_ret
           exact⟨Av HF.out.symm,A8 hbw2 hb3⟩
          | true =>
           by_cases hz:200<x.2.size
           ·have e1:=Rc.subE_4 hc he hv hz
            have HF:=J (show C5 f=4 by rw[HM.out,HE.out,s1 (by rw[e1];decide),e1];rfl)
            have HC:=J hc
            have HV:=J hv
            clear hc e1 s0 s1 he hv
            go_wp2_with (first
             |(go_at_call 127;refine (r07_Code_c x.1 _).mono ?_;rintro e w1 ⟨rfl,rfl⟩;rw[HC.out])
             |(go_at_call 122;refine (r01_Valid_c x.2 _ (by omega)).mono ?_;rintro e w2 ⟨rfl,hb3⟩;rw[HV.out];have q1:=A0 hb3 (show (wr.alloc (.cells #[.int .u8 x.1.toNat,.string x.2] 96)).cell? ⟨wr.heap.size,1,A4⟩=A2 (.string x.2) by simp)))
            go_ret
            exact⟨Av HF.out.symm,A8 hbw2 hb3⟩
           ·have e1:=Rc.subE_0 hc he hv (by omega)
            have HN:=J (s0 e1)
            have HC:=J hc
            have HV:=J hv
            have hz2:x.2.size≤200:=by omega
            clear hc e1 s0 s1 he hv hz
            go_wp2_with (first
             |(go_at_call 127;refine (r07_Code_c x.1 _).mono ?_;rintro e w1 ⟨rfl,rfl⟩;rw[HC.out])
             |(go_at_call 122;refine (r01_Valid_c x.2 _ (by omega)).mono ?_;rintro e w2 ⟨rfl,hb3⟩;rw[HV.out];have q1:=A0 hb3 (show (wr.alloc (.cells #[.int .u8 x.1.toNat,.string x.2] 96)).cell? ⟨wr.heap.size,1,A4⟩=A2 (.string x.2) by simp)))
            go_roundw
            case rel=>exact⟨k+1,by omega,by go_num,HN,A8 hb2 hb3⟩
            case measure=>simp[Ad];omega
       ·obtain rfl:k=f.subs.length:=by omega
        have hE0:E=0:=by
         rw[← hI.out,AB (by rw[At];exact Nat.le_refl _)];rfl
        have hf2:C5 f=if f.auth<0∨9999<f.auth then 2 else 0:=by rw[HM.out,HE.out,hE0];rfl
        clear hE0 hI
        by_cases g1:f.auth<0
        ·have HF:=J (show C5 f=2 by rw[hf2,if_pos (.inl g1)])
         clear hf2
         go_wp2
         go_ret
         exact⟨Av HF.out.symm,hbw⟩
        ·by_cases g2:9999<f.auth
         ·have HF:=J (show C5 f=2 by rw[hf2,if_pos (.inr g2)])
          clear hf2
          have g1':0≤f.auth:=by omega
          go_wp2
          go_ret
          exact⟨Av HF.out.symm,hbw⟩
         ·have HF:=J (show C5 f=0 by rw[hf2,if_neg (by omega)])
          clear hf2
          have g1':0≤f.auth:=by omega
          have g2':f.auth≤9999:=by omega
          go_wp2
          go_ret
          exact⟨Av HF.out.symm,hbw⟩
namespace Rc
theorem recE_2 {r:Rd} (h:r.id<0∨9999<r.id):recE r=2:=by unfold recE;rw[if_pos h]
theorem recE_20 {r:Rd} (h:¬ (r.id<0∨9999<r.id)) (h2:r.ver<1∨3<r.ver):recE r=20:=by unfold recE;rw[if_neg h,if_pos h2]
theorem recE_1 {r:Rd} (h:¬ (r.id<0∨9999<r.id)) (h2:¬ (r.ver<1∨3<r.ver)) (h3:r.kind<1∨4<r.kind):recE r=1:=by unfold recE;rw[if_neg h,if_neg h2,if_pos h3]
theorem recE_3 {r:Rd} (h:¬ (r.id<0∨9999<r.id)) (h2:¬ (r.ver<1∨3<r.ver)) (h3:¬ (r.kind<1∨4<r.kind)) (h4:r.lang.data.toList.length≠3):recE r=3:=by unfold recE;rw[if_neg h,if_neg h2,if_neg h3,if_pos h4]
theorem recE_3b {r:Rd} (h:¬ (r.id<0∨9999<r.id)) (h2:¬ (r.ver<1∨3<r.ver)) (h3:¬ (r.kind<1∨4<r.kind)) (h4:r.lang.data.toList.length=3) (h5:langOk r.lang.data.toList=false):recE r=3:=by
 unfold recE;rw[if_neg h,if_neg h2,if_neg h3,if_neg (by omega),if_pos h5]
theorem recE_4 {r:Rd} (h:¬ (r.id<0∨9999<r.id)) (h2:¬ (r.ver<1∨3<r.ver)) (h3:¬ (r.kind<1∨4<r.kind)) (h4:r.lang.data.toList.length=3) (h5:langOk r.lang.data.toList=true) (h6:64<r.fields.length):recE r=4:=by
 unfold recE;rw[if_neg h,if_neg h2,if_neg h3,if_neg (by omega),if_neg (by simp[h5]),if_pos h6]
theorem recE_f {r:Rd} (h:¬ (r.id<0∨9999<r.id)) (h2:¬ (r.ver<1∨3<r.ver)) (h3:¬ (r.kind<1∨4<r.kind)) (h4:r.lang.data.toList.length=3) (h5:langOk r.lang.data.toList=true) (h6:¬ 64<r.fields.length):recE r=firstE (r.fields.map fieldE):=by
 unfold recE;rw[if_neg h,if_neg h2,if_neg h3,if_neg (by omega),if_neg (by simp[h5]),if_neg h6]
theorem fld_step {l:List Fl}{k:Nat}{x:Fl}{n:Int} (h:l[k]?=A2 x) (hd:firstE ((l.map fieldE).drop k)=n):(fieldE x=0→firstE ((l.map fieldE).drop (k+1))=n)∧(fieldE x≠0→n=fieldE x):=by
 have:=firstE_step (l:=l.map fieldE) (k:=k) (e:=fieldE x) (by rw[List.getElem?_map,h];rfl)
 rw[hd]at this
 exact⟨fun h0=>by rw[if_pos h0]at this;exact this.symm,fun h0=>by rw[if_neg h0]at this;exact this⟩
theorem lang_at {s:ByteArray}{k:Nat} (h:k<3) (hl:lowB (s.data.toList.getD k 0)=false):langOk s.data.toList=false:=by
 unfold langOk
 match k,h with
 | 0,_=>rw[hl];rfl
 | 1,_=>rw[hl];simp
 | 2,_=>rw[hl];simp
theorem lang_all {s:ByteArray} (h:∀ k,k<3→lowB (s.data.toList.getD k 0)=true):langOk s.data.toList=true:=by
 unfold langOk
 rw[h 0 (by omega),h 1 (by omega),h 2 (by omega)]
 rfl
end Rc
theorem r08_Right_c (fs:List Rc.Fl) (a:Option Addr) (c:Nat) (id ver kind:Int) (lang:ByteArray) (w:A9) (h:Rc.FldA w a c fs) (hz:∀ f∈fs,∀ x∈f.subs,x.2.size≤1000000) :
  Ac A3 24 #[.agg #[.int .i64 id,.int .i64 ver,.int .i64 kind,.string lang,.slice a fs.length c]] w fun e w'=>e=.returned (.int .i64 (Rc.recE ⟨id,ver,kind,lang,fs⟩))∧A6 w.heap.size w w':=by
 obtain⟨W,hW⟩:∃ W,w.alloc (.cells #[.int .i64 id,.int .i64 ver,.int .i64 kind,.string lang,.slice a fs.length c] 51)=W:=⟨_,rfl⟩
 have hB:A6 w.heap.size w W:=by rw[← hW];exact Aa _ _
 have c0:W.cell? ⟨w.heap.size,0,A4⟩=A2 (.int .i64 id):=by rw[← hW];simp
 have c1:W.cell? ⟨w.heap.size,1,A4⟩=A2 (.int .i64 ver):=by rw[← hW];simp
 have c2:W.cell? ⟨w.heap.size,2,A4⟩=A2 (.int .i64 kind):=by rw[← hW];simp
 have c3:W.cell? ⟨w.heap.size,3,A4⟩=A2 (.string lang):=by rw[← hW];simp
 have c4:W.cell? ⟨w.heap.size,4,A4⟩=A2 (.slice a fs.length c):=by rw[← hW];simp
 have hS:=h.below hB
 have hcap:=h.cap
 have hmx:maxLen=9223372036854775807:=rfl
 have hmax:=h.max
 have HZ:=J hz;clear hz
 by_cases i1:id<0
 ·have HE:=J (Rc.recE_2 (r:=⟨id,ver,kind,lang,fs⟩) (.inl i1))
  go_enter CH,Cu
  go_wp2
  go_ret
  exact⟨Av HE.out.symm,hB⟩
 ·have i1':0≤id:=by omega
  clear i1
  by_cases i2:9999<id
  ·have HE:=J (Rc.recE_2 (r:=⟨id,ver,kind,lang,fs⟩) (.inr i2))
   go_enter CH,Cu
   go_wp2
   go_ret
   exact⟨Av HE.out.symm,hB⟩
  ·have i2':id≤9999:=by omega
   clear i2
   have J1:=J (show ¬ (id<0∨9999<id) by omega)
   by_cases v1:ver<1
   ·have HE:=J (Rc.recE_20 (r:=⟨id,ver,kind,lang,fs⟩) J1.out (.inl v1))
    go_enter CH,Cu
    go_wp2
    go_ret
    exact⟨Av HE.out.symm,hB⟩
   ·have v1':1≤ver:=by omega
    clear v1
    by_cases v2:3<ver
    ·have HE:=J (Rc.recE_20 (r:=⟨id,ver,kind,lang,fs⟩) J1.out (.inr v2))
     go_enter CH,Cu
     go_wp2
     go_ret
     exact⟨Av HE.out.symm,hB⟩
    ·have v2':ver≤3:=by omega
     clear v2
     have J2:=J (show ¬ (ver<1∨3<ver) by omega)
     by_cases k1:kind<1
     ·have HE:=J (Rc.recE_1 (r:=⟨id,ver,kind,lang,fs⟩) J1.out J2.out (.inl k1))
      go_enter CH,Cu
      go_wp2
      go_ret
      exact⟨Av HE.out.symm,hB⟩
     ·have k1':1≤kind:=by omega
      clear k1
      by_cases k2:4<kind
      ·have HE:=J (Rc.recE_1 (r:=⟨id,ver,kind,lang,fs⟩) J1.out J2.out (.inr k2))
       go_enter CH,Cu
       go_wp2
       go_ret
       exact⟨Av HE.out.symm,hB⟩
      ·have k2':kind≤4:=by omega
       clear k2
       have J3:=J (show ¬ (kind<1∨4<kind) by omega)
       by_cases l3:lang.size=3
       ·have J4:=J (show lang.data.toList.length=3 by rw[← Ak];exact l3)
        have q1:decide ((9999:Int)<id)=false:=decide_eq_false (by omega)
        have q2:decide ((3:Int)<ver)=false:=decide_eq_false (by omega)
        have q3:decide ((4:Int)<kind)=false:=decide_eq_false (by omega)
        go_enter CH,Cu
        go_wp2
        clear hW
        go_loop [3] (fun i=>∃ (k:Nat),k≤3∧i=.int .i64 k∧Hid (∀ j,j<k→Gt (lang.data.toList.getD j 0)=true)) (fun i=>3 - (Ad i).toNat)
        case atStart=>exact⟨0,by omega,rfl,J (fun j hj=>absurd hj (by omega))⟩
        case round =>
         obtain⟨k,hk,rfl,hE⟩:=hrel
         by_cases hlt:k<3
         ·obtain⟨x,hx⟩:∃ x,lang.data.toList.getD k 0=x:=⟨_,rfl⟩
          have e0:∀ h,lang[k]'h=x:=fun h=>by rw[← hx,Dn lang k h]
          by_cases g1:97≤x.toNat
          ·by_cases g2:x.toNat≤122
           ·have hE2:Hid (∀ j,j<k+1→Gt (lang.data.toList.getD j 0)=true):=J (fun j hj=>by
             rcases Nat.lt_or_ge j k with h1 | h1
             ·exact hE.out j h1
             ·obtain rfl:j=k:=by omega
              rw[hx];exact decide_eq_true ⟨g1,g2⟩)
            have g1':(97:Int)≤(x.toNat:Int):=by omega
            have g2':(x.toNat:Int)≤122:=by omega
            clear hx
            go_wp2
            go_round
            case rel=>exact⟨k+1,by omega,by go_num,hE2⟩
            case measure=>simp[Ad];omega
           ·have HE:=J (Rc.recE_3b (r:=⟨id,ver,kind,lang,fs⟩) J1.out J2.out J3.out J4.out (Rc.lang_at hlt (by rw[hx];exact decide_eq_false (by omega))))
            have g1':(97:Int)≤(x.toNat:Int):=by omega
            have g2':(122:Int)<(x.toNat:Int):=by omega
            clear hx
            go_wp2
            go_ret
            exact⟨Av HE.out.symm,hB⟩
          ·have HE:=J (Rc.recE_3b (r:=⟨id,ver,kind,lang,fs⟩) J1.out J2.out J3.out J4.out (Rc.lang_at hlt (by rw[hx];exact decide_eq_false (by omega))))
           have g1':(x.toNat:Int)<97:=by omega
           clear hx
           go_wp2
           go_ret
           exact⟨Av HE.out.symm,hB⟩
         ·obtain rfl:k=3:=by omega
          have J5:=J (Rc.lang_all hE.out)
          by_cases f6:64<fs.length
          ·have HE:=J (Rc.recE_4 (r:=⟨id,ver,kind,lang,fs⟩) J1.out J2.out J3.out J4.out J5.out f6)
           go_wp2
           go_ret
           exact⟨Av HE.out.symm,hB⟩
          ·have HF:=J (Rc.recE_f (r:=⟨id,ver,kind,lang,fs⟩) J1.out J2.out J3.out J4.out J5.out f6)
           have f6':fs.length≤64:=by omega
           have q6:decide ((64:Int)<(fs.length:Int))=false:=decide_eq_false (by omega)
           clear f6
           obtain⟨E,hEE⟩:∃ E,Gg (fs.map C5)=E:=⟨_,rfl⟩
           have HE:=J hEE;clear hEE hE
           go_wp2
           go_loopw [4,5] (fun i _ wr=>∃ (k:Nat),k≤fs.length∧i=.int .i64 k∧Hid (Gg ((fs.map C5).drop k)=E)∧A6 W.heap.size W wr) (fun i _ _=>fs.length - (Ad i).toNat)
           case atStart=>exact⟨0,Ae _,rfl,J (by rw[AM,HE.out]),Below.refl _ _⟩
           case round =>
            obtain⟨k,hk,rfl,hI,hb⟩:=hrel
            have hbw:=A8 hB hb
            replace c4:=A0 hb c4
            clear c0 c1 c2 c3
            by_cases hlt:k<fs.length
            ·obtain⟨f,hf⟩:∃ f,fs[k]?=A2 f:=⟨_,A7 hlt⟩
             have HZF:=J (HZ.out f (Ag hf))
             obtain⟨b,o,sa,sc,rfl,hbl,d0,d1,d2,d3,hsub⟩:=hS.get hf
             replace d0:=A0 hb d0
             replace d1:=A0 hb d1
             replace d2:=A0 hb d2
             replace d3:=A0 hb d3
             have hsub2:=hsub.below hb
             obtain⟨s0,s1⟩:=Rc.fld_step hf hI.out
             clear hf hI
             obtain⟨n,hn⟩:∃ n,C5 f=n:=⟨_,rfl⟩
             rw[hn]at s0 s1
             have HN:=J hn;clear hn
             by_cases n0:n=0
             ·have HS:=J (s0 n0)
              have nq:(n != 0)=false:=by simpa using n0
              clear s0 s1 n0
              go_wp2_with (go_at_call 58;refine (r07_Right_c f sa sc _ hsub2 HZF.out).mono ?_;rintro e w1 ⟨rfl,hb1⟩;rw[HN.out])
              go_roundw
              case rel=>exact⟨k+1,by omega,by go_num,HS,A8 hb hb1⟩
              case measure=>simp[Ad];omega
             ·have HS:=J (show Rc.recE ⟨id,ver,kind,lang,fs⟩=n by rw[HF.out,HE.out,s1 n0])
              have nq:(n != 0)=true:=by simpa using n0
              clear s0 s1 n0
              go_wp2_with (go_at_call 58;refine (r07_Right_c f sa sc _ hsub2 HZF.out).mono ?_;rintro e w1 ⟨rfl,hb1⟩;rw[HN.out])
              go_ret
              exact⟨Av HS.out.symm,A8 hbw hb1⟩
            ·obtain rfl:k=fs.length:=by omega
             have HS:=J (show Rc.recE ⟨id,ver,kind,lang,fs⟩=0 by
              rw[HF.out,HE.out,← hI.out,AB (by rw[At];exact Nat.le_refl _)];rfl)
             clear hI
             go_wp2
             go_ret
             exact⟨Av HS.out.symm,hbw⟩
       ·have HE:=J (Rc.recE_3 (r:=⟨id,ver,kind,lang,fs⟩) J1.out J2.out J3.out (by rw[← Ak];exact l3))
        have ls:((lang.size:Int) != 3)=true:=by simp;omega
        clear l3
        go_enter CH,Cu
        go_wp2
        go_ret
        exact⟨Av HE.out.symm,hB⟩
end Go.Proofs.YtlakomilichhnaaGreatDoor
