/- Texts of this seat's, what the claim needs of them. -/
import Derived.Test.YtlakomilichhnaaGreatDoorZCdR22
import Derived.Test.YtlakomilichhnaaGreatDoorYEOo
import Derived.Test.YtlakomilichhnaaGreatDoorYECdB22
namespace Go.Proofs.YtlakomilichhnaaGreatDoor
set_option maxRecDepth 100000
open Go.RowKit
open DataW renaming Trod→IB,trod→AF,trod_string→CD,trod_struct→Dd,weights→FU
open Go renaming DataW→C4,MemPlace→BN,TypeId→Bd,Value→Ah
open List renaming getElem?_of_mem→C3
open Option renaming some→A2
open Proofs.Tryz renaming prog→A3,underlying25→BE,underlying3→AI,underlying51→G1,underlying84→GJ,underlying9→B6,underlying96→GI
section
open Go.ChangeShapes Go.WideShapes Go.ChangeAt Go.Deep
section
variable {H : Type} {enc : Bd × Ah → H} {P : Program} {W : World} {base : Nat} {sp : Nat → Bool} {hd : Bool}
theorem one_u8 {fuel:Nat}{t:Bd}{cs:List Ah}{x:C4 H × List BN} (hu:P.underlying t=A2 (.int .u8)) (h:AF enc P W base sp hd fuel t cs=A2 x):∃ n:UInt8,cs=[.int .u8 n.toNat]:=by
 obtain⟨n,e,_,hw⟩:=DataW.trod_int hu h
 unfold Lit.wf at hw
 rw[Bool.and_eq_true,decide_eq_true_iff,decide_eq_true_iff]at hw
 have h0:(0:Int)≤n:=hw.1
 have h1:n≤(255:Int):=hw.2
 refine⟨UInt8.ofNat n.toNat,?_⟩
 rw[e,UInt8.toNat_ofNat_of_lt' (by show n.toNat<256;omega)]
 simp[Int.toNat_of_nonneg h0]
theorem Wt.part {t:Bd}{fs:Array Field} (ht:P.underlying t=A2 (.struct fs)) {xs:List (C4 H)} (h:Wt P t (.agg xs)) {j:Nat}{f:Field}{d:C4 H} (hf:fs[j]?=A2 f) (hd:xs[j]?=A2 d):Wt P f.type d:=fun n hn=>h n (by
 simp only[FU,ht]
 exact wt_each (j:=j) (by rw[List.getElem?_map,Array.getElem?_toList,hf];rfl) hd n hn)
theorem Wt.str {t:Bd}{s:List UInt8} (h:Wt P t (.lit (.string s):C4 H)):s.length≤140737488351232:=h _ (by simp[FU])
end
section
variable {H : Type} {enc : Bd × Ah → H} {W : World} {base : Nat} {sp : Nat → Bool} {hd : Bool}
theorem open_sub {fuel:Nat}{cs:List Ah}{x:C4 H × List BN} (hw:Wt A3 96 x.1) (h:AF enc A3 W base sp hd fuel 96 cs=A2 x):∃ s:UInt8 × ByteArray,cs=[.int .u8 s.1.toNat,.string s.2]∧s.2.size≤140737488351232:=by
 obtain⟨xs,n,_,rfl,hl,hxl,hg⟩:=Dd GI h
 have hl2:cs.length=2:=hl.trans (by kernel_rfl)
 match cs,hl2 with
 | [c0,c1],_ =>
  match xs,hxl with
  | [x0,x1],_ =>
   have k5:A3.cellsOf 5=1:=by kernel_rfl
   have k9:A3.cellsOf 9=1:=by kernel_rfl
   obtain⟨n0,e0⟩:=one_u8 Tryz.underlying5 (show AF enc A3 W base sp hd n 5 [c0]=A2 x0 from by simpa [k5] using hg 0 _ rfl)
   obtain⟨n1,e1,d1,_⟩:=CD B6 (show AF enc A3 W base sp hd n 9 [c1]=A2 x1 from by simpa [k9] using hg 1 _ rfl)
   injection e0 with e0
   injection e1 with e1
   subst d1
   have hs:=Wt.str (Wt.part (j:=1) GI hw rfl rfl)
   exact⟨(n0,n1),by rw[e0,e1],by rw[Lib.size_eq];exact hs⟩
theorem open_subs {fuel:Nat}{v:Ah}{x:C4 H × List BN} (hw:Wt A3 82 x.1) (h:AF enc A3 W base sp hd fuel 82 [v]=A2 x):∃ (xs:List (UInt8 × ByteArray)) (a:Option Addr) (c:Nat),v=.slice a xs.length c∧Rc.SubA W a c xs∧∀ s∈xs,s.2.size≤140737488351232:=by
 obtain⟨xs,a,c,e,h1,h2,b,o,h3,h4⟩:=open_listW Tryz.underlying82 (show A3.cellsOf 96=2 by kernel_rfl) (by omega) (fun (s:UInt8 × ByteArray) cs=>cs=[.int .u8 s.1.toNat,.string s.2]∧s.2.size≤140737488351232) (fun n cs x hw hx=>open_sub hw hx) hw h
 refine⟨xs,a,c,e,⟨h1,h2,b,o,h3,fun j x hx=>?_⟩,fun x hx=>?_⟩
 ·obtain⟨cs,⟨rfl,_⟩,g⟩:=h4 j x hx
  exact⟨g 0 (by omega),g 1 (by omega)⟩
 ·obtain⟨j,hj⟩:=C3 hx
  obtain⟨cs,⟨_,hs⟩,_⟩:=h4 j x hj
  exact hs
def FlC (W:World) (f:Rc.Fl) (cs:List Ah):Prop:=∃ sa sc,cs=[.string f.tag,.string f.ind,.slice sa f.subs.length sc,.int .i64 f.auth]∧Rc.SubA W sa sc f.subs∧(∀ s∈f.subs,s.2.size≤140737488351232)∧(-9223372036854775808≤f.auth∧f.auth≤9223372036854775807)
theorem open_field {fuel:Nat}{cs:List Ah}{x:C4 H × List BN} (hw:Wt A3 84 x.1) (h:AF enc A3 W base sp hd fuel 84 cs=A2 x):∃ f:Rc.Fl,FlC W f cs:=by
 obtain⟨xs,n,_,rfl,hl,hxl,hg⟩:=Dd GJ h
 have hl4:cs.length=4:=hl.trans (by kernel_rfl)
 match cs,hl4 with
 | [c0,c1,c2,c3],_ =>
  match xs,hxl with
  | [x0,x1,x2,x3],_ =>
   have k3:A3.cellsOf 3=1:=by kernel_rfl
   have k9:A3.cellsOf 9=1:=by kernel_rfl
   have k40:A3.cellsOf 82=1:=by kernel_rfl
   obtain⟨n0,e0,_,_⟩:=CD B6 (show AF enc A3 W base sp hd n 9 [c0]=A2 x0 from by simpa [k9] using hg 0 _ rfl)
   obtain⟨n1,e1,_,_⟩:=CD B6 (show AF enc A3 W base sp hd n 9 [c1]=A2 x1 from by simpa [k9] using hg 1 _ rfl)
   obtain⟨xs2,sa,sc,e2,hs,hz⟩:=open_subs (Wt.part (j:=2) GJ hw rfl rfl) (show AF enc A3 W base sp hd n 82 [c2]=A2 x2 from by simpa [k40] using hg 2 _ rfl)
   obtain⟨n3,e3,l3,u3⟩:=one_i64 AI (show AF enc A3 W base sp hd n 3 [c3]=A2 x3 from by simpa [k3] using hg 3 _ rfl)
   injection e0 with e0
   injection e1 with e1
   injection e3 with e3
   exact⟨⟨n0,n1,xs2,n3⟩,sa,sc,by rw[e0,e1,e2,e3],hs,hz,l3,u3⟩
theorem open_fields {fuel:Nat}{v:Ah}{x:C4 H × List BN} (hw:Wt A3 49 x.1) (h:AF enc A3 W base sp hd fuel 49 [v]=A2 x):∃ (fs:List Rc.Fl) (a:Option Addr) (c:Nat),v=.slice a fs.length c∧Rc.FldA W a c fs∧∀ f∈fs,∀ s∈f.subs,s.2.size≤140737488351232:=by
 obtain⟨xs,a,c,e,h1,h2,b,o,h3,h4⟩:=open_listW Tryz.underlying49 (show A3.cellsOf 84=4 by kernel_rfl) (by omega) (FlC W) (fun n cs x hw hx=>open_field hw hx) hw h
 refine⟨xs,a,c,e,⟨h1,h2,b,o,h3,fun j x hx=>?_⟩,fun x hx=>?_⟩
 ·obtain⟨cs,⟨sa,sc,rfl,hs,_⟩,g⟩:=h4 j x hx
  exact⟨g 0 (by omega),g 1 (by omega),⟨sa,sc,g 2 (by omega),hs⟩,g 3 (by omega)⟩
 ·obtain⟨j,hj⟩:=C3 hx
  obtain⟨cs,⟨_,_,_,_,hz,_⟩,_⟩:=h4 j x hj
  exact hz
def RdC (W:World) (r:Rc.Rd) (cs:List Ah):Prop:=∃ a c,cs=[.int .i64 r.id,.int .i64 r.ver,.int .i64 r.kind,.string r.lang,.slice a r.fields.length c]∧Rc.FldA W a c r.fields∧(∀ f∈r.fields,∀ s∈f.subs,s.2.size≤140737488351232)∧(-9223372036854775808≤r.id∧r.id≤9223372036854775807)
theorem open_rec {fuel:Nat}{cs:List Ah}{x:C4 H × List BN} (hw:Wt A3 51 x.1) (h:AF enc A3 W base sp hd fuel 51 cs=A2 x):∃ r:Rc.Rd,RdC W r cs:=by
 obtain⟨xs,n,_,rfl,hl,hxl,hg⟩:=Dd G1 h
 have hl5:cs.length=5:=hl.trans (by kernel_rfl)
 match cs,hl5 with
 | [c0,c1,c2,c3,c4],_ =>
  match xs,hxl with
  | [x0,x1,x2,x3,x4],_ =>
   have k3:A3.cellsOf 3=1:=by kernel_rfl
   have k9:A3.cellsOf 9=1:=by kernel_rfl
   have k22:A3.cellsOf 49=1:=by kernel_rfl
   obtain⟨n0,e0,l0,u0⟩:=one_i64 AI (show AF enc A3 W base sp hd n 3 [c0]=A2 x0 from by simpa [k3] using hg 0 _ rfl)
   obtain⟨n1,e1,_,_⟩:=one_i64 AI (show AF enc A3 W base sp hd n 3 [c1]=A2 x1 from by simpa [k3] using hg 1 _ rfl)
   obtain⟨n2,e2,_,_⟩:=one_i64 AI (show AF enc A3 W base sp hd n 3 [c2]=A2 x2 from by simpa [k3] using hg 2 _ rfl)
   obtain⟨n3,e3,_,_⟩:=CD B6 (show AF enc A3 W base sp hd n 9 [c3]=A2 x3 from by simpa [k9] using hg 3 _ rfl)
   obtain⟨fs,a,c,e4,hs,hz⟩:=open_fields (Wt.part (j:=4) G1 hw rfl rfl) (show AF enc A3 W base sp hd n 49 [c4]=A2 x4 from by simpa [k22] using hg 4 _ rfl)
   injection e0 with e0
   injection e1 with e1
   injection e2 with e2
   injection e3 with e3
   exact⟨⟨n0,n1,n2,n3,fs⟩,a,c,by rw[e0,e1,e2,e3,e4],hs,hz,l0,u0⟩
theorem open_records {r:Reach}{b0:Nat}{v:Ah}{d:C4 H}{ps:List BN} (hw:Wt A3 25 d) (hv:Value.okWide A3 W r b0 25 v) (h:IB enc A3 W base sp hd 25 v d ps):∃ (rs:List Rc.Rd) (a:Option Addr) (c:Nat),v=.slice a rs.length c∧Rc.RdA W a c rs∧∀ r∈rs,(∀ f∈r.fields,∀ s∈f.subs,s.2.size≤140737488351232)∧(-9223372036854775808≤r.id∧r.id≤9223372036854775807):=by
 obtain⟨fuel,hf⟩:=h
 obtain⟨a0,len,cap,rfl⟩:=okWide_slice BE hv
 obtain⟨xs,a,c,e,h1,h2,b,o,h3,h4⟩:=open_listW BE (show A3.cellsOf 51=5 by kernel_rfl) (by omega) (RdC W) (fun n cs x hw hx=>open_rec hw hx) (x:=(d,ps)) hw (show AF enc A3 W base sp hd fuel 25 [.slice a0 len cap]=A2 (d,ps) from by simpa [Value.cells] using hf)
 refine⟨xs,a,c,e,⟨h1,h2,b,o,h3,fun j x hx=>?_⟩,fun x hx=>?_⟩
 ·obtain⟨cs,⟨fa,fc,rfl,hs,_⟩,g⟩:=h4 j x hx
  exact⟨g 0 (by omega),g 1 (by omega),g 2 (by omega),g 3 (by omega),⟨fa,fc,g 4 (by omega),hs⟩⟩
 ·obtain⟨j,hj⟩:=C3 hx
  obtain⟨cs,⟨_,_,_,_,hz,hb⟩,_⟩:=h4 j x hj
  exact⟨hz,hb⟩
def PtC (W:World) (t:Ix.PT) (cs:List Ah):Prop:=cs=Ix.encP t∧Ix.IA W t.2.1 t.2.2 t.1.at_∧(∀ n∈t.1.at_,-9223372036854775808≤n∧n≤9223372036854775807)∧(-9223372036854775808≤t.1.id∧t.1.id≤9223372036854775807)∧t.1.word.length≤140737488351232
theorem open_post {fuel:Nat}{cs:List Ah}{x:C4 H × List BN} (hw:Wt A3 100 x.1) (h:AF enc A3 W base sp hd fuel 100 cs=A2 x):∃ t:Ix.PT,PtC W t cs:=by
 obtain⟨xs,n,_,rfl,hl,hxl,hg⟩:=Dd Tryz.underlying100 h
 have hl4:cs.length=4:=hl.trans (by kernel_rfl)
 match cs,hl4 with
 | [c0,c1,c2,c3],_ =>
  match xs,hxl with
  | [x0,x1,x2,x3],_ =>
   have k3:A3.cellsOf 3=1:=by kernel_rfl
   have k9:A3.cellsOf 9=1:=by kernel_rfl
   have k40:A3.cellsOf 35=1:=by kernel_rfl
   obtain⟨n0,e0,_,_⟩:=one_i64 AI (show AF enc A3 W base sp hd n 3 [c0]=A2 x0 from by simpa [k3] using hg 0 _ rfl)
   obtain⟨n1,e1,d1,_⟩:=CD B6 (show AF enc A3 W base sp hd n 9 [c1]=A2 x1 from by simpa [k9] using hg 1 _ rfl)
   obtain⟨n2,e2,l2,u2⟩:=one_i64 AI (show AF enc A3 W base sp hd n 3 [c2]=A2 x2 from by simpa [k3] using hg 2 _ rfl)
   obtain⟨xs3,a,c,e3,hs,hz⟩:=open_intsW (Wt.part (j:=3) Tryz.underlying100 hw rfl rfl) (show AF enc A3 W base sp hd n 35 [c3]=A2 x3 from by simpa [k40] using hg 3 _ rfl)
   injection e0 with e0
   injection e1 with e1
   injection e2 with e2
   subst d1
   have hsz:=Wt.str (Wt.part (j:=1) Tryz.underlying100 hw rfl rfl)
   refine⟨(⟨n0,n1.data.toList,n2,xs3⟩,a,c),?_,hs,hz,⟨l2,u2⟩,hsz⟩
   rw[e0,e1,e2,e3]
theorem open_index {r:Reach}{b0:Nat}{v:Ah}{d:C4 H}{ps:List BN} (hw:Wt A3 24 d) (hv:Value.okWide A3 W r b0 24 v) (h:IB enc A3 W base sp hd 24 v d ps) :
  ∃ (T:List Ix.PT) (a:Option Addr) (c:Nat),v=.agg #[.slice a T.length c]∧Ix.PsA W a c T∧∀ t∈T,(∀ n∈t.1.at_,-9223372036854775808≤n∧n≤9223372036854775807)∧(-9223372036854775808≤t.1.id∧t.1.id≤9223372036854775807)∧t.1.word.length≤140737488351232:=by
 obtain⟨fuel,hf⟩:=h
 obtain⟨cs,rfl,_⟩:=okWide_struct Tryz.underlying24 hv
 obtain⟨xs,n,_,hx,hl,hxl,hg⟩:=Dd Tryz.underlying24 hf
 have hl1:(Value.agg cs).cells.toList.length=1:=hl.trans (by kernel_rfl)
 simp only[Value.cells]at hl1 hg
 obtain⟨c0,hc0⟩:∃ c0,cs.toList=[c0]:=List.length_eq_one_iff.1 hl1
 match xs,hxl with
 | [x0],_ =>
  have k40:A3.cellsOf 22=1:=by kernel_rfl
  rw[hc0]at hg
  injection hx with hx _
  subst hx
  obtain⟨T,a,c,e,h1,h2,b,o,h3,h4⟩:=open_listW Tryz.underlying22 (show A3.cellsOf 100=4 by kernel_rfl) (by omega) (PtC W) (fun n cs x hw hx=>open_post hw hx) (Wt.part (j:=0) Tryz.underlying24 hw rfl rfl) (show AF enc A3 W base sp hd n 22 [c0]=A2 x0 from by simpa [k40] using hg 0 _ rfl)
  refine⟨T,a,c,?_,⟨⟨h1,h2,b,o,h3,fun j i x u hx hu=>?_⟩,fun t ht=>?_⟩,fun t ht=>?_⟩
  ·rw[← Array.toArray_toList (xs:=cs),hc0,e]
  ·obtain⟨cs,⟨rfl,_⟩,g⟩:=h4 j x hx
   have hi:i<4:=(List.getElem?_eq_some_iff.1 hu).1
   rw[g i hi];exact hu
  ·obtain⟨j,hj⟩:=C3 ht
   obtain⟨cs,⟨_,hI,_⟩,_⟩:=h4 j t hj
   exact hI
  ·obtain⟨j,hj⟩:=C3 ht
   obtain⟨cs,⟨_,_,hz,hb,hs⟩,_⟩:=h4 j t hj
   exact⟨hz,hb,hs⟩
end
end
end Go.Proofs.YtlakomilichhnaaGreatDoor
