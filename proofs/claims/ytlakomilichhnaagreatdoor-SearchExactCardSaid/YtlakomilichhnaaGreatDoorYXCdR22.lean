/- Texts of this seat's, what the claim needs of them. -/
import Derived.Test.YtlakomilichhnaaGreatDoorZCdB22
import Derived.Test.YtlakomilichhnaaGreatDoorYXOr
import Derived.Test.YtlakomilichhnaaGreatDoorZCdR22
import Derived.Test.YtlakomilichhnaaGreatDoorYXOo
namespace Go.Proofs.YtlakomilichhnaaGreatDoor
set_option maxRecDepth 100000
open Go.RowKit
open DataW renaming trod→AF
open Go renaming MemPlace→BN,Value→Ah
open List renaming getElem?_eq_getElem→A7,getElem?_eq_some_iff→Ai,getElem?_map→AE,getElem?_range→G4,range→EB
open Option renaming map_eq_some_iff→BZ,some→A2
open Proofs.Tryz renaming prog→A3,underlying29→Jd,underlying3→AI
section
open Go.ChangeShapes Go.WideShapes Go.ChangeAt Go.Deep
section
variable {H : Type} {enc : TypeId × Ah → H} {P : Program}
end
section
variable {H : Type} {enc : TypeId × Ah → H} {P : Program} {W : World} {base : Nat} {sp : Nat → Bool} {hd : Bool}
theorem open_listF {α:Type} [Inhabited α] {t e:TypeId}{k:Nat} (ht:P.underlying t=A2 (.slice e)) (hk:P.cellsOf e=k) (h0:0<k) (R:α→List Ah→Prop) {fuel:Nat}
  (hR:∀ n,n<fuel→∀ cs (x:DataW H × List BN),AF enc P W base sp hd n e cs=A2 x→∃ it,R it cs) {v:Ah}{x:DataW H × List BN} (h:AF enc P W base sp hd fuel t [v]=A2 x) :
  ∃ (xs:List α) (a:Option Addr) (c:Nat),v=.slice a xs.length c∧xs.length≤c∧c≤maxLen∧∃ b o,(xs≠[]→a=A2 ⟨b,o,none⟩∧b<W.heap.size)∧∀ (j:Nat) x,xs[j]?=A2 x→∃ cs,R x cs∧∀ i,i<k→W.cell? ⟨b,o+j*k+i,none⟩=cs[i]?:=by
 rcases DataW.trod_slice ht h with⟨e,_⟩ | ⟨a',len,cap,elems,rest,n,hfu,e,_,hb,hl,hm,hlen,hel0,_,_⟩
 ·simp at e
  subst e
  exact⟨[],none,0,rfl,Nat.le_refl _,by unfold maxLen;omega,0,0,fun h=>absurd rfl h,fun j x hx=>by simp at hx⟩
 ·simp at e
  subst e
  have hel:∀ i,i<len→∃ cs' y,W.cells? base (a'.add (i*P.cellsOf e)) (P.cellsOf e)=A2 cs'∧AF enc P W base sp hd n _ cs'=A2 y:=fun i hi=>by
   have h1:=hel0 i hi
   rw[A7 (by omega)]at h1
   obtain⟨cs',h2,h3⟩:=Option.bind_eq_some_iff.1 h1
   exact⟨cs',_,h2,h3⟩
  have hit:∀ i,i<len→∃ it:α,(a'.block<W.heap.size∧∃ cs,R it cs∧∀ j,j<k→W.cell? ((a'.add (i*k)).add j)=cs[j]?):=fun i hi=>by
   obtain⟨cs',y,hc,ht⟩:=hel i hi
   obtain⟨it,hr⟩:=hR n (by omega) _ _ ht
   rw[hk]at hc
   have hlt:=World.cells?_block hc h0
   have hblk:(a'.add (i*k)).block=a'.block:=by unfold Addr.add;split <;> rfl
   rw[hblk]at hlt
   exact⟨it,hlt,cs',hr,(World.cells?_some hc).2.2⟩
  have hat:∀ i,i<len→∃ (it:α) (u:Ah),W.cell? ((a'.add (i*k)).add 0)=A2 u:=fun i hi=>by
   obtain⟨cs',y,hc,ht⟩:=hel i hi
   rw[hk]at hc
   obtain⟨_,hcl,hat⟩:=World.cells?_some hc
   have h1:0<cs'.length:=by omega
   exact⟨default,cs'[0]'h1,by rw[hat 0 h0];exact A7 h1⟩
  obtain⟨f,hf2⟩:=choose_lt hit
  have hget:∀ (j:Nat) x,((EB len).map f)[j]?=A2 x→j<len∧x=f j:=fun j x hx=>by
   rw[AE]at hx
   obtain⟨y,hy,rfl⟩:=BZ.1 hx
   have h1:j<len:=by have:=(Ai.1 hy).1;simpa using this
   rw[G4 h1]at hy
   injection hy with hy
   exact⟨h1,by rw[hy]⟩
  obtain⟨b,o,spot⟩:=a'
  have hspot:0<len→spot=none:=fun h9=>by
   obtain⟨_,u,hu⟩:=hat 0 h9
   simpa [Addr.add] using World.cell?_spot hu
  refine⟨(EB len).map f,A2 ⟨b,o,spot⟩,cap,by simp,by simpa using hl,hm,b,o,fun hne=>?_,fun j x hx=>?_⟩
  ·have h9:0<len:=by
    rcases Nat.eq_zero_or_pos len with h | h
    ·subst h;simp at hne
    ·exact h
   exact⟨by rw[hspot h9],(hf2 0 h9).1⟩
  ·obtain⟨hj,rfl⟩:=hget j x hx
   obtain⟨cs,hr,g⟩:=(hf2 j hj).2
   obtain rfl:=hspot (by omega)
   simp only[add_plain]at g
   exact⟨cs,hr,g⟩
end
section
variable {H : Type} {enc : TypeId × Ah → H} {W : World} {base : Nat} {sp : Nat → Bool} {hd : Bool}
theorem open_strs {fuel:Nat}{v:Ah}{x:DataW H × List BN} (h:AF enc A3 W base sp hd fuel 26 [v]=A2 x):∃ (xs:List ByteArray) (a:Option Addr) (c:Nat),v=.slice a xs.length c∧SL W v xs:=by
 obtain⟨xs,a,c,e,h1,h2,b,o,h3,h4⟩:=open_listF Tryz.underlying26 (show A3.cellsOf 9=1 by kernel_rfl) (by omega) (fun (s:ByteArray) cs=>cs=[.string s]) (fun n _ cs x hx=>by
  obtain⟨s,e,_⟩:=DataW.trod_string Tryz.underlying9 hx
  exact⟨s,e⟩) h
 refine⟨xs,a,c,e,?_⟩
 by_cases hne:xs=[]
 ·subst hne
  exact .inl ⟨rfl,a,c,e⟩
 ·obtain⟨rfl,hb⟩:=h3 hne
  refine .inr ⟨b,o,c,e,h1,h2,hb,fun j y hy=>?_⟩
  obtain⟨cs,rfl,g⟩:=h4 j y hy
  have:=g 0 (by omega)
  simpa using this
theorem open_qy:∀ (fuel:Nat) (cs:List Ah) (x:DataW H × List BN),AF enc A3 W base sp hd fuel 29 cs=A2 x→∃ q:Qr.Qy,Qr.QC 0 W q cs:=by
 intro fuel
 induction fuel using Nat.strongRecOn with
 | ind fuel ih =>
  intro cs x h
  obtain⟨xs,n,hfu,_,hl,hxl,hg⟩:=DataW.trod_struct Jd h
  have hl6:cs.length=6:=hl.trans (by kernel_rfl)
  match cs,hl6 with
  | [c0,c1,c2,c3,c4,c5],_ =>
   match xs,hxl with
   | [x0,x1,x2,x3,x4,x5],_ =>
    have k3:A3.cellsOf 3=1:=by kernel_rfl
    have ks:A3.cellsOf 26=1:=by kernel_rfl
    have kq:A3.cellsOf 27=1:=by kernel_rfl
    obtain⟨n0,e0,_,_⟩:=one_i64 AI (show AF enc A3 W base sp hd n 3 [c0]=A2 x0 from by simpa [k3] using hg 0 _ rfl)
    obtain⟨n1,e1,_,_⟩:=one_i64 AI (show AF enc A3 W base sp hd n 3 [c1]=A2 x1 from by simpa [k3] using hg 1 _ rfl)
    obtain⟨ws,sa,sc,e2,hs⟩:=open_strs (show AF enc A3 W base sp hd n 26 [c2]=A2 x2 from by simpa [ks] using hg 2 _ rfl)
    obtain⟨n3,e3,_,_⟩:=one_i64 AI (show AF enc A3 W base sp hd n 3 [c3]=A2 x3 from by simpa [k3] using hg 3 _ rfl)
    obtain⟨n4,e4,_,_⟩:=one_i64 AI (show AF enc A3 W base sp hd n 3 [c4]=A2 x4 from by simpa [k3] using hg 4 _ rfl)
    obtain⟨kl,ka,kc,e5,h1,h2,b,o,h3,h4⟩:=open_listF Tryz.underlying27 (show A3.cellsOf 29=6 by kernel_rfl) (by omega) (fun (q:Qr.Qy) cs=>Qr.QC 0 W q cs) (fun m hm cs x hx=>ih m (by omega) cs x hx) (show AF enc A3 W base sp hd n 27 [c5]=A2 x5 from by simpa [kq] using hg 5 _ rfl)
    injection e0 with e0
    injection e1 with e1
    injection e3 with e3
    injection e4 with e4
    rw[e2]at hs
    subst e0 e1 e2 e3 e4 e5
    have hcs:∀ j,j<kl.length→∃ cs:List Ah,(∃ q,kl[j]?=A2 q∧Qr.QC 0 W q cs)∧∀ i,i<6→W.cell? ⟨b,o+j*6+i,none⟩=cs[i]?:=fun j hj=>by
     obtain⟨cs,hq,g⟩:=h4 j _ (A7 hj)
     exact⟨cs,⟨_,A7 hj,hq⟩,g⟩
    obtain⟨f,hf⟩:=choose_lt hcs
    have hgetf:∀ (j:Nat) cs,((EB kl.length).map f)[j]?=A2 cs→j<kl.length∧cs=f j:=fun j cs hx=>by
     rw[AE]at hx
     obtain⟨y,hy,rfl⟩:=BZ.1 hx
     have h1:j<kl.length:=by have:=(Ai.1 hy).1;simpa using this
     rw[G4 h1]at hy
     injection hy with hy
     exact⟨h1,by rw[hy]⟩
    refine⟨.mk n0 n1 ws n3 n4 kl,.mk (css:=(EB kl.length).map f) hs (fun _ ad l c _=>Nat.zero_le _) (by simp) (fun j k cs hk hc=>?_) ?_ (fun _ ad _=>Nat.zero_le _)⟩
    ·obtain⟨hj,rfl⟩:=hgetf j cs hc
     obtain⟨⟨q,hq1,hq2⟩,_⟩:=hf j hj
     rw[hk]at hq1
     injection hq1 with hq1
     rw[hq1]
     exact hq2
    ·refine⟨by simpa using h1,h2,b,o,fun hne=>h3 (fun h0=>hne (by rw[h0];rfl)),fun j i cs u hc hu=>?_⟩
     obtain⟨hj,rfl⟩:=hgetf j cs hc
     obtain⟨⟨q,hq1,hq2⟩,g⟩:=hf j hj
     have hu':(f j)[i]?=A2 u:=hu
     have hi:i<6:=by rw[← hq2.len];exact (Ai.1 hu').1
     rw[g i hi]
     exact hu'
theorem open_query {r:Reach}{b0:Nat}{v:Ah}{d:DataW H}{ps:List BN} (hv:Value.okWide A3 W r b0 29 v) (h:DataW.Trod enc A3 W base sp hd 29 v d ps) :
  ∃ (q:Qr.Qy) (cs:List Ah),v=.agg cs.toArray∧Qr.QC 0 W q cs:=by
 obtain⟨fuel,hf⟩:=h
 obtain⟨cs,rfl,_⟩:=okWide_struct Jd hv
 obtain⟨q,hq⟩:=open_qy _ _ _ hf
 refine⟨q,cs.toList,by simp,?_⟩
 simpa [Value.cells] using hq
end
end
end Go.Proofs.YtlakomilichhnaaGreatDoor
namespace Go.Proofs.YtlakomilichhnaaGreatDoor
set_option maxRecDepth 100000
open Go.RowKit
open DataW renaming trod→AF,trod_string→CD,trod_struct→Dd,weights→FU
open Go renaming DataW→C4,MemPlace→BN,TypeId→Bd,Value→Ah
open List renaming getElem?_of_mem→C3
open Option renaming some→A2
open Proofs.Tryz renaming prog→A3,underlying25→BE,underlying3→AI,underlying51→G1,underlying84→GJ,underlying9→B6,underlying96→GI
section
open Go.ChangeShapes Go.WideShapes Go.ChangeAt Go.Deep
section
variable {H : Type} {enc : Bd × Ah → H} {P : Program} {W : World} {base : Nat} {sp : Nat → Bool} {hd : Bool}
theorem one_u8 {fuel:Nat}{t:Bd}{cs:List Ah}{x:C4 H × List BN} (hu:P.underlying t=A2 (.int .u8)) (h:AF enc P W base sp hd fuel t cs=A2 x):∃ n:UInt8,cs=[.int .u8 n.toNat]:=by
 obtain⟨n,e,_,hw⟩:=DataW.trod_int hu h
 unfold Lit.wf at hw
 rw[Bool.and_eq_true,decide_eq_true_iff,decide_eq_true_iff]at hw
 have h0:(0:Int)≤n:=hw.1
 have h1:n≤(255:Int):=hw.2
 refine⟨UInt8.ofNat n.toNat,?_⟩
 rw[e,UInt8.toNat_ofNat_of_lt' (by show n.toNat<256;omega)]
 simp[Int.toNat_of_nonneg h0]
theorem Wt.part {t:Bd}{fs:Array Field} (ht:P.underlying t=A2 (.struct fs)) {xs:List (C4 H)} (h:Wt P t (.agg xs)) {j:Nat}{f:Field}{d:C4 H} (hf:fs[j]?=A2 f) (hd:xs[j]?=A2 d):Wt P f.type d:=fun n hn=>h n (by
 simp only[FU,ht]
 exact wt_each (j:=j) (by rw[List.getElem?_map,Array.getElem?_toList,hf];rfl) hd n hn)
theorem Wt.str {t:Bd}{s:List UInt8} (h:Wt P t (.lit (.string s):C4 H)):s.length≤140737488351232:=h _ (by simp[FU])
end
section
variable {H : Type} {enc : Bd × Ah → H} {W : World} {base : Nat} {sp : Nat → Bool} {hd : Bool}
theorem open_sub {fuel:Nat}{cs:List Ah}{x:C4 H × List BN} (hw:Wt A3 96 x.1) (h:AF enc A3 W base sp hd fuel 96 cs=A2 x):∃ s:UInt8 × ByteArray,cs=[.int .u8 s.1.toNat,.string s.2]∧s.2.size≤140737488351232:=by
 obtain⟨xs,n,_,rfl,hl,hxl,hg⟩:=Dd GI h
 have hl2:cs.length=2:=hl.trans (by kernel_rfl)
 match cs,hl2 with
 | [c0,c1],_ =>
  match xs,hxl with
  | [x0,x1],_ =>
   have k5:A3.cellsOf 5=1:=by kernel_rfl
   have k9:A3.cellsOf 9=1:=by kernel_rfl
   obtain⟨n0,e0⟩:=one_u8 Tryz.underlying5 (show AF enc A3 W base sp hd n 5 [c0]=A2 x0 from by simpa [k5] using hg 0 _ rfl)
   obtain⟨n1,e1,d1,_⟩:=CD B6 (show AF enc A3 W base sp hd n 9 [c1]=A2 x1 from by simpa [k9] using hg 1 _ rfl)
   injection e0 with e0
   injection e1 with e1
   subst d1
   have hs:=Wt.str (Wt.part (j:=1) GI hw rfl rfl)
   exact⟨(n0,n1),by rw[e0,e1],by rw[Lib.size_eq];exact hs⟩
theorem open_subs {fuel:Nat}{v:Ah}{x:C4 H × List BN} (hw:Wt A3 82 x.1) (h:AF enc A3 W base sp hd fuel 82 [v]=A2 x):∃ (xs:List (UInt8 × ByteArray)) (a:Option Addr) (c:Nat),v=.slice a xs.length c∧Rc.SubA W a c xs∧∀ s∈xs,s.2.size≤140737488351232:=by
 obtain⟨xs,a,c,e,h1,h2,b,o,h3,h4⟩:=open_listW Tryz.underlying82 (show A3.cellsOf 96=2 by kernel_rfl) (by omega) (fun (s:UInt8 × ByteArray) cs=>cs=[.int .u8 s.1.toNat,.string s.2]∧s.2.size≤140737488351232) (fun n cs x hw hx=>open_sub hw hx) hw h
 refine⟨xs,a,c,e,⟨h1,h2,b,o,h3,fun j x hx=>?_⟩,fun x hx=>?_⟩
 ·obtain⟨cs,⟨rfl,_⟩,g⟩:=h4 j x hx
  exact⟨g 0 (by omega),g 1 (by omega)⟩
 ·obtain⟨j,hj⟩:=C3 hx
  obtain⟨cs,⟨_,hs⟩,_⟩:=h4 j x hj
  exact hs
def FlC (W:World) (f:Rc.Fl) (cs:List Ah):Prop:=∃ sa sc,cs=[.string f.tag,.string f.ind,.slice sa f.subs.length sc,.int .i64 f.auth]∧Rc.SubA W sa sc f.subs∧(∀ s∈f.subs,s.2.size≤140737488351232)∧(-9223372036854775808≤f.auth∧f.auth≤9223372036854775807)
theorem open_field {fuel:Nat}{cs:List Ah}{x:C4 H × List BN} (hw:Wt A3 84 x.1) (h:AF enc A3 W base sp hd fuel 84 cs=A2 x):∃ f:Rc.Fl,FlC W f cs:=by
 obtain⟨xs,n,_,rfl,hl,hxl,hg⟩:=Dd GJ h
 have hl4:cs.length=4:=hl.trans (by kernel_rfl)
 match cs,hl4 with
 | [c0,c1,c2,c3],_ =>
  match xs,hxl with
  | [x0,x1,x2,x3],_ =>
   have k3:A3.cellsOf 3=1:=by kernel_rfl
   have k9:A3.cellsOf 9=1:=by kernel_rfl
   have k40:A3.cellsOf 82=1:=by kernel_rfl
   obtain⟨n0,e0,_,_⟩:=CD B6 (show AF enc A3 W base sp hd n 9 [c0]=A2 x0 from by simpa [k9] using hg 0 _ rfl)
   obtain⟨n1,e1,_,_⟩:=CD B6 (show AF enc A3 W base sp hd n 9 [c1]=A2 x1 from by simpa [k9] using hg 1 _ rfl)
   obtain⟨xs2,sa,sc,e2,hs,hz⟩:=open_subs (Wt.part (j:=2) GJ hw rfl rfl) (show AF enc A3 W base sp hd n 82 [c2]=A2 x2 from by simpa [k40] using hg 2 _ rfl)
   obtain⟨n3,e3,l3,u3⟩:=one_i64 AI (show AF enc A3 W base sp hd n 3 [c3]=A2 x3 from by simpa [k3] using hg 3 _ rfl)
   injection e0 with e0
   injection e1 with e1
   injection e3 with e3
   exact⟨⟨n0,n1,xs2,n3⟩,sa,sc,by rw[e0,e1,e2,e3],hs,hz,l3,u3⟩
theorem open_fields {fuel:Nat}{v:Ah}{x:C4 H × List BN} (hw:Wt A3 49 x.1) (h:AF enc A3 W base sp hd fuel 49 [v]=A2 x):∃ (fs:List Rc.Fl) (a:Option Addr) (c:Nat),v=.slice a fs.length c∧Rc.FldA W a c fs∧∀ f∈fs,∀ s∈f.subs,s.2.size≤140737488351232:=by
 obtain⟨xs,a,c,e,h1,h2,b,o,h3,h4⟩:=open_listW Tryz.underlying49 (show A3.cellsOf 84=4 by kernel_rfl) (by omega) (FlC W) (fun n cs x hw hx=>open_field hw hx) hw h
 refine⟨xs,a,c,e,⟨h1,h2,b,o,h3,fun j x hx=>?_⟩,fun x hx=>?_⟩
 ·obtain⟨cs,⟨sa,sc,rfl,hs,_⟩,g⟩:=h4 j x hx
  exact⟨g 0 (by omega),g 1 (by omega),⟨sa,sc,g 2 (by omega),hs⟩,g 3 (by omega)⟩
 ·obtain⟨j,hj⟩:=C3 hx
  obtain⟨cs,⟨_,_,_,_,hz,_⟩,_⟩:=h4 j x hj
  exact hz
def RdC (W:World) (r:Rc.Rd) (cs:List Ah):Prop:=∃ a c,cs=[.int .i64 r.id,.int .i64 r.ver,.int .i64 r.kind,.string r.lang,.slice a r.fields.length c]∧Rc.FldA W a c r.fields∧(∀ f∈r.fields,∀ s∈f.subs,s.2.size≤140737488351232)∧(-9223372036854775808≤r.id∧r.id≤9223372036854775807)
theorem open_rec {fuel:Nat}{cs:List Ah}{x:C4 H × List BN} (hw:Wt A3 51 x.1) (h:AF enc A3 W base sp hd fuel 51 cs=A2 x):∃ r:Rc.Rd,RdC W r cs:=by
 obtain⟨xs,n,_,rfl,hl,hxl,hg⟩:=Dd G1 h
 have hl5:cs.length=5:=hl.trans (by kernel_rfl)
 match cs,hl5 with
 | [c0,c1,c2,c3,c4],_ =>
  match xs,hxl with
  | [x0,x1,x2,x3,x4],_ =>
   have k3:A3.cellsOf 3=1:=by kernel_rfl
   have k9:A3.cellsOf 9=1:=by kernel_rfl
   have k22:A3.cellsOf 49=1:=by kernel_rfl
   obtain⟨n0,e0,l0,u0⟩:=one_i64 AI (show AF enc A3 W base sp hd n 3 [c0]=A2 x0 from by simpa [k3] using hg 0 _ rfl)
   obtain⟨n1,e1,_,_⟩:=one_i64 AI (show AF enc A3 W base sp hd n 3 [c1]=A2 x1 from by simpa [k3] using hg 1 _ rfl)
   obtain⟨n2,e2,_,_⟩:=one_i64 AI (show AF enc A3 W base sp hd n 3 [c2]=A2 x2 from by simpa [k3] using hg 2 _ rfl)
   obtain⟨n3,e3,_,_⟩:=CD B6 (show AF enc A3 W base sp hd n 9 [c3]=A2 x3 from by simpa [k9] using hg 3 _ rfl)
   obtain⟨fs,a,c,e4,hs,hz⟩:=open_fields (Wt.part (j:=4) G1 hw rfl rfl) (show AF enc A3 W base sp hd n 49 [c4]=A2 x4 from by simpa [k22] using hg 4 _ rfl)
   injection e0 with e0
   injection e1 with e1
   injection e2 with e2
   injection e3 with e3
   exact⟨⟨n0,n1,n2,n3,fs⟩,a,c,by rw[e0,e1,e2,e3,e4],hs,hz,l0,u0⟩
theorem open_records {r:Reach}{b0:Nat}{v:Ah}{d:C4 H}{ps:List BN} (hw:Wt A3 25 d) (hv:Value.okWide A3 W r b0 25 v) (h:DataW.Trod enc A3 W base sp hd 25 v d ps):∃ (rs:List Rc.Rd) (a:Option Addr) (c:Nat),v=.slice a rs.length c∧Rc.RdA W a c rs∧∀ r∈rs,(∀ f∈r.fields,∀ s∈f.subs,s.2.size≤140737488351232)∧(-9223372036854775808≤r.id∧r.id≤9223372036854775807):=by
 obtain⟨fuel,hf⟩:=h
 obtain⟨a0,len,cap,rfl⟩:=okWide_slice BE hv
 obtain⟨xs,a,c,e,h1,h2,b,o,h3,h4⟩:=open_listW BE (show A3.cellsOf 51=5 by kernel_rfl) (by omega) (RdC W) (fun n cs x hw hx=>open_rec hw hx) (x:=(d,ps)) hw (show AF enc A3 W base sp hd fuel 25 [.slice a0 len cap]=A2 (d,ps) from by simpa [Value.cells] using hf)
 refine⟨xs,a,c,e,⟨h1,h2,b,o,h3,fun j x hx=>?_⟩,fun x hx=>?_⟩
 ·obtain⟨cs,⟨fa,fc,rfl,hs,_⟩,g⟩:=h4 j x hx
  exact⟨g 0 (by omega),g 1 (by omega),g 2 (by omega),g 3 (by omega),⟨fa,fc,g 4 (by omega),hs⟩⟩
 ·obtain⟨j,hj⟩:=C3 hx
  obtain⟨cs,⟨_,_,_,_,hz,hb⟩,_⟩:=h4 j x hj
  exact⟨hz,hb⟩
end
end
end Go.Proofs.YtlakomilichhnaaGreatDoor
