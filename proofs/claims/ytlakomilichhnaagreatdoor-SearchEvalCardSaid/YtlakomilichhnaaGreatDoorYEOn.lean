/- Texts of this seat's, what the claim needs of them. -/
import Derived.Test.YtlakomilichhnaaGreatDoorZOn
import Derived.Test.YtlakomilichhnaaGreatDoorYEOo
import Derived.Test.YtlakomilichhnaaGreatDoorYEPd
import Derived.Test.YtlakomilichhnaaGreatDoorYEOx
namespace Go.Proofs.YtlakomilichhnaaGreatDoor
set_option maxHeartbeats 3200000
set_option maxRecDepth 100000
open Go.RowKit
open Act renaming put→DI
open Cp renaming ltI→Bk,puts→Ca
open Go renaming Addr→Ao,Calls→Ac,World→A9,cell_later→A0,heap_alloc_new→Ar,wpAnyH_take→C0
open Ix renaming IA→DA,PT→Cx,PsA→Zq
open Lib renaming hid→J
open List renaming filter_append→Dc,getElem?_eq_getElem→A7,length_eq_one_iff→E2,length_take→Az,mem_cons_of_mem→Bw,mem_cons_self→AY,mem_filter→B8,mem_of_getElem?→Ag,setIfInBounds_toArray→AJ,set_cons_succ→B5,set_cons_zero→B4,take_length→Ap
open Nat renaming add_zero→Bs,zero_le→Ae,zero_mul→Ew
open Option renaming none→A4,some→A2
open Or renaming inl→F2,inr→G9
open Proofs.Tryz renaming func38→Kk,ntmps38→JF,prog→A3
open Rc renaming FldA→AV,Rd→BF
open RowKit renaming Below→A6,intOf→Ad
open RowKit.Below renaming refl→Ab
open Sr renaming Gx→Mj,ev→DD,evalQ→J0,leafX→BQ
open Tx renaming blk→Aq,newb→Aa,step→A8
open Value renaming int→B7
namespace Qr
end Qr
namespace Rc
end Rc
namespace Sr
open Rc hiding bys
open Qr
def FiC (T:List Cx) (xa:Option Ao) (xc:Nat) (r:Rd) (fa:Option Ao) (fc B:Nat) (q:Qy):Prop:=∀ (cs:List Value) (w:A9),QC B w q cs→Zq w xa xc T→AV w fa fc r.fields →
  Ac A3 38 #[.agg #[.slice xa T.length xc],.agg #[.int .i64 r.id,.int .i64 r.ver,.int .i64 r.kind,.string r.lang,.slice fa r.fields.length fc],.agg cs.toArray] w fun e w'=>e=.returned (.bool (ev (leafX (T.map (·.1)) r) q))∧A6 w.heap.size w w'
theorem ev5 (lf:Qy→Bool) (ks:List Qy):ev lf (.mk 5 0 [] 0 0 ks)=ks.all (ev lf):=by rw[ev,if_pos rfl,evAll_eq]
theorem ev6 (lf:Qy→Bool) (ks:List Qy):ev lf (.mk 6 0 [] 0 0 ks)=ks.any (ev lf):=by rw[ev,if_neg (by decide),if_pos rfl,evAny_eq]
theorem ev7 (lf:Qy→Bool) (x y:Qy):ev lf (.mk 7 0 [] 0 0 [x,y])=(ev lf x&&!ev lf y):=by
 rw[ev,if_neg (by decide),if_neg (by decide),if_pos rfl,evNot,evAny,evAny,Bool.or_false]
theorem evl (lf:Qy→Bool) {o f a b:Int}{ws:List ByteArray} (h:o≠5∧o≠6∧o≠7):ev lf (.mk o f ws a b [])=lf (.mk o f ws a b []):=by
 rw[ev,if_neg h.1,if_neg h.2.1,if_neg h.2.2]
def cnt (p:Qy→Bool) (ks:List Qy):Nat:=(ks.filter p).length
theorem cnt_take {p:Qy→Bool}{ks:List Qy}{k:Nat}{x:Qy} (h:ks[k]?=A2 x):cnt p (ks.take (k+1))=cnt p (ks.take k)+(if p x=true then 1 else 0):=by
 unfold cnt
 rw[take_snoc h,Dc,List.length_append]
 by_cases hp:p x=true <;> simp[hp]
theorem cnt_le (p:Qy→Bool) (ks:List Qy):cnt p ks≤ks.length:=List.length_filter_le _ _
theorem cnt_all (p:Qy→Bool) (ks:List Qy):ks.all p=decide (cnt p ks=ks.length):=by
 unfold cnt
 rw[Bool.eq_iff_iff,decide_eq_true_eq,List.length_filter_eq_length_iff,List.all_eq_true]
theorem cnt_any (p:Qy→Bool) (ks:List Qy):ks.any p=decide (0<cnt p ks):=by
 unfold cnt
 rw[Bool.eq_iff_iff,decide_eq_true_eq,List.length_pos_iff_exists_mem,List.any_eq_true]
 constructor
 ·rintro⟨x,h1,h2⟩;exact⟨x,B8.2 ⟨h1,h2⟩⟩
 ·rintro⟨x,h⟩;exact⟨x,(B8.1 h).1,(B8.1 h).2⟩
theorem la_ia {w:A9}{b o c:Nat}{xs:List Int} (h:Cs.LA (B7 .i64) w b o c xs):DA w (A2 ⟨b,o,A4⟩) c xs :=
 ⟨h.cap,h.max,b,o,fun _=>⟨rfl,h.lt⟩,fun j i x u hx hu=>by
  match i,hu with
  | 0,hu =>
   injection hu with hu
   subst hu
   have:=h.at_ j x hx
   rw[Nat.mul_one,Bs]
   exact this⟩
end Sr
theorem r22_Finds_4 (T:List Cx) (xa:Option Ao) (xc:Nat) (r:BF) (fa:Option Ao) (fc:Nat) (ya yb:Int) (sa:Option Ao) (sc:Nat) (ka:Option Ao) (kc:Nat) (w:A9) (px:Zq w xa xc T) (h:AV w fa fc r.fields) (hR:Sr.Rg r) :
  Ac A3 38 #[.agg #[.slice xa T.length xc],.agg #[.int .i64 r.id,.int .i64 r.ver,.int .i64 r.kind,.string r.lang,.slice fa r.fields.length fc],.agg #[.int .i64 4,.int .i64 0,.slice sa 0 sc,.int .i64 ya,.int .i64 yb,.slice ka 0 kc]] w fun e w'=>e=.returned (.bool (DD (BQ (T.map (·.1)) r) (.mk 4 0 [] ya yb [])))∧A6 w.heap.size w w':=by
 obtain⟨b,hb⟩:∃ b,DD (BQ (T.map (·.1)) r) (.mk 4 0 [] ya yb [])=b:=⟨_,rfl⟩
 rw[hb]
 obtain⟨W,hW⟩:∃ W,((w.alloc (.cells #[.slice xa T.length xc] 24)).alloc (.cells #[.int .i64 r.id,.int .i64 r.ver,.int .i64 r.kind,.string r.lang,.slice fa r.fields.length fc] 51)).alloc (.cells #[.int .i64 4,.int .i64 0,.slice sa 0 sc,.int .i64 ya,.int .i64 yb,.slice ka 0 kc] 29)=W:=⟨_,rfl⟩
 have hB:A6 w.heap.size w W:=by rw[← hW];exact ((Aa _ _).alloc (by simp) _).alloc (by simp;omega) _
 have c0:W.cell? ⟨w.heap.size,0,A4⟩=A2 (.slice xa T.length xc):=by rw[← hW];exact A0 ((Aa _ _).alloc (by simp) _) (by simp)
 have r0:W.cell? ⟨w.heap.size+1,0,A4⟩=A2 (.int .i64 r.id):=by rw[← hW];exact A0 (Aa _ _) (by simp)
 have r1:W.cell? ⟨w.heap.size+1,1,A4⟩=A2 (.int .i64 r.ver):=by rw[← hW];exact A0 (Aa _ _) (by simp)
 have r2:W.cell? ⟨w.heap.size+1,2,A4⟩=A2 (.int .i64 r.kind):=by rw[← hW];exact A0 (Aa _ _) (by simp)
 have r3:W.cell? ⟨w.heap.size+1,3,A4⟩=A2 (.string r.lang):=by rw[← hW];exact A0 (Aa _ _) (by simp)
 have r4:W.cell? ⟨w.heap.size+1,4,A4⟩=A2 (.slice fa r.fields.length fc):=by rw[← hW];exact A0 (Aa _ _) (by simp)
 have d0:W.cell? ⟨w.heap.size+2,0,A4⟩=A2 (.int .i64 4):=by rw[← hW,show w.heap.size+2=((w.alloc (.cells #[.slice xa T.length xc] 24)).alloc (.cells #[.int .i64 r.id,.int .i64 r.ver,.int .i64 r.kind,.string r.lang,.slice fa r.fields.length fc] 51)).heap.size by simp];exact (Aq (Ar _ _)).1 0
 have d1:W.cell? ⟨w.heap.size+2,1,A4⟩=A2 (.int .i64 0):=by rw[← hW,show w.heap.size+2=((w.alloc (.cells #[.slice xa T.length xc] 24)).alloc (.cells #[.int .i64 r.id,.int .i64 r.ver,.int .i64 r.kind,.string r.lang,.slice fa r.fields.length fc] 51)).heap.size by simp];exact (Aq (Ar _ _)).1 1
 have d2:W.cell? ⟨w.heap.size+2,2,A4⟩=A2 (.slice sa 0 sc):=by rw[← hW,show w.heap.size+2=((w.alloc (.cells #[.slice xa T.length xc] 24)).alloc (.cells #[.int .i64 r.id,.int .i64 r.ver,.int .i64 r.kind,.string r.lang,.slice fa r.fields.length fc] 51)).heap.size by simp];exact (Aq (Ar _ _)).1 2
 have d3:W.cell? ⟨w.heap.size+2,3,A4⟩=A2 (.int .i64 ya):=by rw[← hW,show w.heap.size+2=((w.alloc (.cells #[.slice xa T.length xc] 24)).alloc (.cells #[.int .i64 r.id,.int .i64 r.ver,.int .i64 r.kind,.string r.lang,.slice fa r.fields.length fc] 51)).heap.size by simp];exact (Aq (Ar _ _)).1 3
 have d4:W.cell? ⟨w.heap.size+2,4,A4⟩=A2 (.int .i64 yb):=by rw[← hW,show w.heap.size+2=((w.alloc (.cells #[.slice xa T.length xc] 24)).alloc (.cells #[.int .i64 r.id,.int .i64 r.ver,.int .i64 r.kind,.string r.lang,.slice fa r.fields.length fc] 51)).heap.size by simp];exact (Aq (Ar _ _)).1 4
 have d5:W.cell? ⟨w.heap.size+2,5,A4⟩=A2 (.slice ka 0 kc):=by rw[← hW,show w.heap.size+2=((w.alloc (.cells #[.slice xa T.length xc] 24)).alloc (.cells #[.int .i64 r.id,.int .i64 r.ver,.int .i64 r.kind,.string r.lang,.slice fa r.fields.length fc] 51)).heap.size by simp];exact (Aq (Ar _ _)).1 5
 have hFW:=h.below hB
 have hPW:=px.below hB
 have YC:=r22_Years_c r.fields fa fc r.id r.ver r.kind r.lang 4 0 ya yb (.slice sa 0 sc) (.slice ka 0 kc) W hFW hR.gd
 rw[show Sr.yrB (Rc.year r.fields) ya yb=b from hb]at YC
 have HY:=J YC
 clear YC hb hFW h hR hPW px
 go_enter Kk,JF
 go_wp2_with (go_at_call 69;((with_reducible refine HY.out.mono ?_);rintro e w1 ⟨rfl,hb1⟩))
 go_ret
 exact⟨rfl,A8 hB hb1⟩
theorem r22_Finds_1 (T:List Cx) (xa:Option Ao) (xc:Nat) (r:BF) (fa:Option Ao) (fc:Nat) (f:Int) (y:ByteArray) (sa:Option Ao) (sc:Nat) (ka:Option Ao) (kc:Nat) (w:A9) (px:Zq w xa xc T) (hX:Mj T) (h:AV w fa fc r.fields) (hw:SLA w sa sc [y]) :
  Ac A3 38 #[.agg #[.slice xa T.length xc],.agg #[.int .i64 r.id,.int .i64 r.ver,.int .i64 r.kind,.string r.lang,.slice fa r.fields.length fc],.agg #[.int .i64 1,.int .i64 f,.slice sa 1 sc,.int .i64 0,.int .i64 0,.slice ka 0 kc]] w fun e w'=>e=.returned (.bool (DD (BQ (T.map (·.1)) r) (.mk 1 f [y] 0 0 [])))∧A6 w.heap.size w w':=by
 obtain⟨b,hb⟩:∃ b,DD (BQ (T.map (·.1)) r) (.mk 1 f [y] 0 0 [])=b:=⟨_,rfl⟩
 rw[hb]
 obtain⟨W,hW⟩:∃ W,((w.alloc (.cells #[.slice xa T.length xc] 24)).alloc (.cells #[.int .i64 r.id,.int .i64 r.ver,.int .i64 r.kind,.string r.lang,.slice fa r.fields.length fc] 51)).alloc (.cells #[.int .i64 1,.int .i64 f,.slice sa 1 sc,.int .i64 0,.int .i64 0,.slice ka 0 kc] 29)=W:=⟨_,rfl⟩
 have hB:A6 w.heap.size w W:=by rw[← hW];exact ((Aa _ _).alloc (by simp) _).alloc (by simp;omega) _
 have c0:W.cell? ⟨w.heap.size,0,A4⟩=A2 (.slice xa T.length xc):=by rw[← hW];exact A0 ((Aa _ _).alloc (by simp) _) (by simp)
 have r0:W.cell? ⟨w.heap.size+1,0,A4⟩=A2 (.int .i64 r.id):=by rw[← hW];exact A0 (Aa _ _) (by simp)
 have r1:W.cell? ⟨w.heap.size+1,1,A4⟩=A2 (.int .i64 r.ver):=by rw[← hW];exact A0 (Aa _ _) (by simp)
 have r2:W.cell? ⟨w.heap.size+1,2,A4⟩=A2 (.int .i64 r.kind):=by rw[← hW];exact A0 (Aa _ _) (by simp)
 have r3:W.cell? ⟨w.heap.size+1,3,A4⟩=A2 (.string r.lang):=by rw[← hW];exact A0 (Aa _ _) (by simp)
 have r4:W.cell? ⟨w.heap.size+1,4,A4⟩=A2 (.slice fa r.fields.length fc):=by rw[← hW];exact A0 (Aa _ _) (by simp)
 have d0:W.cell? ⟨w.heap.size+2,0,A4⟩=A2 (.int .i64 1):=by rw[← hW,show w.heap.size+2=((w.alloc (.cells #[.slice xa T.length xc] 24)).alloc (.cells #[.int .i64 r.id,.int .i64 r.ver,.int .i64 r.kind,.string r.lang,.slice fa r.fields.length fc] 51)).heap.size by simp];exact (Aq (Ar _ _)).1 0
 have d1:W.cell? ⟨w.heap.size+2,1,A4⟩=A2 (.int .i64 f):=by rw[← hW,show w.heap.size+2=((w.alloc (.cells #[.slice xa T.length xc] 24)).alloc (.cells #[.int .i64 r.id,.int .i64 r.ver,.int .i64 r.kind,.string r.lang,.slice fa r.fields.length fc] 51)).heap.size by simp];exact (Aq (Ar _ _)).1 1
 have d2:W.cell? ⟨w.heap.size+2,2,A4⟩=A2 (.slice sa 1 sc):=by rw[← hW,show w.heap.size+2=((w.alloc (.cells #[.slice xa T.length xc] 24)).alloc (.cells #[.int .i64 r.id,.int .i64 r.ver,.int .i64 r.kind,.string r.lang,.slice fa r.fields.length fc] 51)).heap.size by simp];exact (Aq (Ar _ _)).1 2
 have d3:W.cell? ⟨w.heap.size+2,3,A4⟩=A2 (.int .i64 0):=by rw[← hW,show w.heap.size+2=((w.alloc (.cells #[.slice xa T.length xc] 24)).alloc (.cells #[.int .i64 r.id,.int .i64 r.ver,.int .i64 r.kind,.string r.lang,.slice fa r.fields.length fc] 51)).heap.size by simp];exact (Aq (Ar _ _)).1 3
 have d4:W.cell? ⟨w.heap.size+2,4,A4⟩=A2 (.int .i64 0):=by rw[← hW,show w.heap.size+2=((w.alloc (.cells #[.slice xa T.length xc] 24)).alloc (.cells #[.int .i64 r.id,.int .i64 r.ver,.int .i64 r.kind,.string r.lang,.slice fa r.fields.length fc] 51)).heap.size by simp];exact (Aq (Ar _ _)).1 4
 have d5:W.cell? ⟨w.heap.size+2,5,A4⟩=A2 (.slice ka 0 kc):=by rw[← hW,show w.heap.size+2=((w.alloc (.cells #[.slice xa T.length xc] 24)).alloc (.cells #[.int .i64 r.id,.int .i64 r.ver,.int .i64 r.kind,.string r.lang,.slice fa r.fields.length fc] 51)).heap.size by simp];exact (Aq (Ar _ _)).1 5
 have hFW:=h.below hB
 have hPW:=px.below hB
 obtain⟨L,hL⟩:∃ L,Ix.word (T.map (·.1)) f y.data.toList=L:=⟨_,rfl⟩
 rw[Sr.evl _ (by decide)]at hb
 have hb2:decide (r.id∈L)=b:=by rw[← hL];exact hb
 have XC:∀ W',A6 W.heap.size W W'→_:=fun W' h9=>r20_Word_c T xa xc f y.data.toList W' (hPW.below h9) (by have:=hX.len;omega)
 rw[← Ix.word_T,hL]at XC
 have KC:∀ W' ia ic,DA W' ia ic L→_:=fun W' ia ic h8=>r22_Has_c L r.id ia ic W' h8
 rw[hb2]at KC
 have HXC:=J XC
 have HKC:=J KC
 obtain⟨b2,o2,rfl,hb2',y0⟩:=(hw.below hB).get (k:=0) (x:=y) rfl
 rw[Bs]at y0
 clear px hX h hw XC KC hPW hFW hL hb hb2
 go_enter Kk,JF
 go_wp2
 clear hW
 go_region_held3 (fun w'=>A6 W.heap.size W w'∧w'.cell? ⟨w.heap.size,0,A4⟩=A2 (.slice xa T.length xc)∧w'.cell? ⟨w.heap.size+1,0,A4⟩=A2 (.int .i64 r.id)∧w'.cell? ⟨w.heap.size+2,1,A4⟩=A2 (.int .i64 f)∧w'.cell? ⟨w.heap.size+2,2,A4⟩=A2 (.slice (A2 ⟨b2,o2,A4⟩) 1 sc)∧w'.cell? ⟨b2,o2,A4⟩=A2 (.string y))
  (first | exact⟨(Ab _ _).drew,c0,r0,d1,d2,y0⟩ | (go_split_ands;exact⟨A8 ‹_› hbx,by repeat' first | exact A0 hbx ‹_› | constructor⟩) | (go_split_ands;exact⟨by assumption,by assumption,by assumption,by assumption,by assumption,by assumption⟩))
  (first
   |(go_split_ands;go_at_call 89;((with_reducible refine (HXC.out _ ‹_›).mono ?_);rintro e wx ⟨v,rfl,ho,hbx⟩;obtain⟨va,vc,rfl,hia,_⟩:=Ix.IA.of_own ho rfl;have HIA:=J hia;clear hia ho))
   |(go_split_ands;go_at_call 51;((with_reducible refine (HKC.out _ _ _ HIA.out).mono ?_);rintro e wx ⟨rfl,rfl⟩)))
 go_split_ands
 go_wp2
 go_ret
 exact⟨rfl,A8 hB ‹_›⟩
theorem r22_Finds_2 (T:List Cx) (xa:Option Ao) (xc:Nat) (r:BF) (fa:Option Ao) (fc:Nat) (f:Int) (y:ByteArray) (sa:Option Ao) (sc:Nat) (ka:Option Ao) (kc:Nat) (w:A9) (px:Zq w xa xc T) (hX:Mj T) (h:AV w fa fc r.fields) (hw:SLA w sa sc [y]) :
  Ac A3 38 #[.agg #[.slice xa T.length xc],.agg #[.int .i64 r.id,.int .i64 r.ver,.int .i64 r.kind,.string r.lang,.slice fa r.fields.length fc],.agg #[.int .i64 2,.int .i64 f,.slice sa 1 sc,.int .i64 0,.int .i64 0,.slice ka 0 kc]] w fun e w'=>e=.returned (.bool (DD (BQ (T.map (·.1)) r) (.mk 2 f [y] 0 0 [])))∧A6 w.heap.size w w':=by
 obtain⟨b,hb⟩:∃ b,DD (BQ (T.map (·.1)) r) (.mk 2 f [y] 0 0 [])=b:=⟨_,rfl⟩
 rw[hb]
 obtain⟨W,hW⟩:∃ W,((w.alloc (.cells #[.slice xa T.length xc] 24)).alloc (.cells #[.int .i64 r.id,.int .i64 r.ver,.int .i64 r.kind,.string r.lang,.slice fa r.fields.length fc] 51)).alloc (.cells #[.int .i64 2,.int .i64 f,.slice sa 1 sc,.int .i64 0,.int .i64 0,.slice ka 0 kc] 29)=W:=⟨_,rfl⟩
 have hB:A6 w.heap.size w W:=by rw[← hW];exact ((Aa _ _).alloc (by simp) _).alloc (by simp;omega) _
 have c0:W.cell? ⟨w.heap.size,0,A4⟩=A2 (.slice xa T.length xc):=by rw[← hW];exact A0 ((Aa _ _).alloc (by simp) _) (by simp)
 have r0:W.cell? ⟨w.heap.size+1,0,A4⟩=A2 (.int .i64 r.id):=by rw[← hW];exact A0 (Aa _ _) (by simp)
 have r1:W.cell? ⟨w.heap.size+1,1,A4⟩=A2 (.int .i64 r.ver):=by rw[← hW];exact A0 (Aa _ _) (by simp)
 have r2:W.cell? ⟨w.heap.size+1,2,A4⟩=A2 (.int .i64 r.kind):=by rw[← hW];exact A0 (Aa _ _) (by simp)
 have r3:W.cell? ⟨w.heap.size+1,3,A4⟩=A2 (.string r.lang):=by rw[← hW];exact A0 (Aa _ _) (by simp)
 have r4:W.cell? ⟨w.heap.size+1,4,A4⟩=A2 (.slice fa r.fields.length fc):=by rw[← hW];exact A0 (Aa _ _) (by simp)
 have d0:W.cell? ⟨w.heap.size+2,0,A4⟩=A2 (.int .i64 2):=by rw[← hW,show w.heap.size+2=((w.alloc (.cells #[.slice xa T.length xc] 24)).alloc (.cells #[.int .i64 r.id,.int .i64 r.ver,.int .i64 r.kind,.string r.lang,.slice fa r.fields.length fc] 51)).heap.size by simp];exact (Aq (Ar _ _)).1 0
 have d1:W.cell? ⟨w.heap.size+2,1,A4⟩=A2 (.int .i64 f):=by rw[← hW,show w.heap.size+2=((w.alloc (.cells #[.slice xa T.length xc] 24)).alloc (.cells #[.int .i64 r.id,.int .i64 r.ver,.int .i64 r.kind,.string r.lang,.slice fa r.fields.length fc] 51)).heap.size by simp];exact (Aq (Ar _ _)).1 1
 have d2:W.cell? ⟨w.heap.size+2,2,A4⟩=A2 (.slice sa 1 sc):=by rw[← hW,show w.heap.size+2=((w.alloc (.cells #[.slice xa T.length xc] 24)).alloc (.cells #[.int .i64 r.id,.int .i64 r.ver,.int .i64 r.kind,.string r.lang,.slice fa r.fields.length fc] 51)).heap.size by simp];exact (Aq (Ar _ _)).1 2
 have d3:W.cell? ⟨w.heap.size+2,3,A4⟩=A2 (.int .i64 0):=by rw[← hW,show w.heap.size+2=((w.alloc (.cells #[.slice xa T.length xc] 24)).alloc (.cells #[.int .i64 r.id,.int .i64 r.ver,.int .i64 r.kind,.string r.lang,.slice fa r.fields.length fc] 51)).heap.size by simp];exact (Aq (Ar _ _)).1 3
 have d4:W.cell? ⟨w.heap.size+2,4,A4⟩=A2 (.int .i64 0):=by rw[← hW,show w.heap.size+2=((w.alloc (.cells #[.slice xa T.length xc] 24)).alloc (.cells #[.int .i64 r.id,.int .i64 r.ver,.int .i64 r.kind,.string r.lang,.slice fa r.fields.length fc] 51)).heap.size by simp];exact (Aq (Ar _ _)).1 4
 have d5:W.cell? ⟨w.heap.size+2,5,A4⟩=A2 (.slice ka 0 kc):=by rw[← hW,show w.heap.size+2=((w.alloc (.cells #[.slice xa T.length xc] 24)).alloc (.cells #[.int .i64 r.id,.int .i64 r.ver,.int .i64 r.kind,.string r.lang,.slice fa r.fields.length fc] 51)).heap.size by simp];exact (Aq (Ar _ _)).1 5
 have hFW:=h.below hB
 have hPW:=px.below hB
 obtain⟨L,hL⟩:∃ L,Ix.prefix_ (T.map (·.1)) f y.data.toList=L:=⟨_,rfl⟩
 rw[Sr.evl _ (by decide)]at hb
 have hb2:decide (r.id∈L)=b:=by rw[← hL];exact hb
 have XC:∀ W',A6 W.heap.size W W'→_:=fun W' h9=>r20_Prefix_c T xa xc f y.data.toList W' (hPW.below h9) (by have:=hX.len;omega) hX.wl
 rw[← Ix.prefix_T,hL]at XC
 have KC:∀ W' ia ic,DA W' ia ic L→_:=fun W' ia ic h8=>r22_Has_c L r.id ia ic W' h8
 rw[hb2]at KC
 have HXC:=J XC
 have HKC:=J KC
 obtain⟨b2,o2,rfl,hb2',y0⟩:=(hw.below hB).get (k:=0) (x:=y) rfl
 rw[Bs]at y0
 clear px hX h hw XC KC hPW hFW hL hb hb2
 go_enter Kk,JF
 go_wp2
 clear hW
 go_region_held3 (fun w'=>A6 W.heap.size W w'∧w'.cell? ⟨w.heap.size,0,A4⟩=A2 (.slice xa T.length xc)∧w'.cell? ⟨w.heap.size+1,0,A4⟩=A2 (.int .i64 r.id)∧w'.cell? ⟨w.heap.size+2,1,A4⟩=A2 (.int .i64 f)∧w'.cell? ⟨w.heap.size+2,2,A4⟩=A2 (.slice (A2 ⟨b2,o2,A4⟩) 1 sc)∧w'.cell? ⟨b2,o2,A4⟩=A2 (.string y))
  (first | exact⟨(Ab _ _).drew,c0,r0,d1,d2,y0⟩ | (go_split_ands;exact⟨A8 ‹_› hbx,by repeat' first | exact A0 hbx ‹_› | constructor⟩) | (go_split_ands;exact⟨by assumption,by assumption,by assumption,by assumption,by assumption,by assumption⟩))
  (first
   |(go_split_ands;go_at_call 90;((with_reducible refine (HXC.out _ ‹_›).mono ?_);rintro e wx ⟨v,rfl,ho,hbx⟩;obtain⟨va,vc,rfl,hia,_⟩:=Ix.IA.of_own ho rfl;have HIA:=J hia;clear hia ho))
   |(go_split_ands;go_at_call 51;((with_reducible refine (HKC.out _ _ _ HIA.out).mono ?_);rintro e wx ⟨rfl,rfl⟩)))
 go_split_ands
 go_wp2
 go_ret
 exact⟨rfl,A8 hB ‹_›⟩
theorem r22_Finds_3 (T:List Cx) (xa:Option Ao) (xc:Nat) (r:BF) (fa:Option Ao) (fc:Nat) (f:Int) (ws:List ByteArray) (sa:Option Ao) (sc:Nat) (ka:Option Ao) (kc:Nat) (w:A9) (px:Zq w xa xc T) (hX:Mj T) (h:AV w fa fc r.fields) (hw:SLA w sa sc ws) :
  Ac A3 38 #[.agg #[.slice xa T.length xc],.agg #[.int .i64 r.id,.int .i64 r.ver,.int .i64 r.kind,.string r.lang,.slice fa r.fields.length fc],.agg #[.int .i64 3,.int .i64 f,.slice sa ws.length sc,.int .i64 0,.int .i64 0,.slice ka 0 kc]] w fun e w'=>e=.returned (.bool (DD (BQ (T.map (·.1)) r) (.mk 3 f ws 0 0 [])))∧A6 w.heap.size w w':=by
 obtain⟨b,hb⟩:∃ b,DD (BQ (T.map (·.1)) r) (.mk 3 f ws 0 0 [])=b:=⟨_,rfl⟩
 rw[hb]
 obtain⟨W,hW⟩:∃ W,((w.alloc (.cells #[.slice xa T.length xc] 24)).alloc (.cells #[.int .i64 r.id,.int .i64 r.ver,.int .i64 r.kind,.string r.lang,.slice fa r.fields.length fc] 51)).alloc (.cells #[.int .i64 3,.int .i64 f,.slice sa ws.length sc,.int .i64 0,.int .i64 0,.slice ka 0 kc] 29)=W:=⟨_,rfl⟩
 have hB:A6 w.heap.size w W:=by rw[← hW];exact ((Aa _ _).alloc (by simp) _).alloc (by simp;omega) _
 have c0:W.cell? ⟨w.heap.size,0,A4⟩=A2 (.slice xa T.length xc):=by rw[← hW];exact A0 ((Aa _ _).alloc (by simp) _) (by simp)
 have r0:W.cell? ⟨w.heap.size+1,0,A4⟩=A2 (.int .i64 r.id):=by rw[← hW];exact A0 (Aa _ _) (by simp)
 have r1:W.cell? ⟨w.heap.size+1,1,A4⟩=A2 (.int .i64 r.ver):=by rw[← hW];exact A0 (Aa _ _) (by simp)
 have r2:W.cell? ⟨w.heap.size+1,2,A4⟩=A2 (.int .i64 r.kind):=by rw[← hW];exact A0 (Aa _ _) (by simp)
 have r3:W.cell? ⟨w.heap.size+1,3,A4⟩=A2 (.string r.lang):=by rw[← hW];exact A0 (Aa _ _) (by simp)
 have r4:W.cell? ⟨w.heap.size+1,4,A4⟩=A2 (.slice fa r.fields.length fc):=by rw[← hW];exact A0 (Aa _ _) (by simp)
 have d0:W.cell? ⟨w.heap.size+2,0,A4⟩=A2 (.int .i64 3):=by rw[← hW,show w.heap.size+2=((w.alloc (.cells #[.slice xa T.length xc] 24)).alloc (.cells #[.int .i64 r.id,.int .i64 r.ver,.int .i64 r.kind,.string r.lang,.slice fa r.fields.length fc] 51)).heap.size by simp];exact (Aq (Ar _ _)).1 0
 have d1:W.cell? ⟨w.heap.size+2,1,A4⟩=A2 (.int .i64 f):=by rw[← hW,show w.heap.size+2=((w.alloc (.cells #[.slice xa T.length xc] 24)).alloc (.cells #[.int .i64 r.id,.int .i64 r.ver,.int .i64 r.kind,.string r.lang,.slice fa r.fields.length fc] 51)).heap.size by simp];exact (Aq (Ar _ _)).1 1
 have d2:W.cell? ⟨w.heap.size+2,2,A4⟩=A2 (.slice sa ws.length sc):=by rw[← hW,show w.heap.size+2=((w.alloc (.cells #[.slice xa T.length xc] 24)).alloc (.cells #[.int .i64 r.id,.int .i64 r.ver,.int .i64 r.kind,.string r.lang,.slice fa r.fields.length fc] 51)).heap.size by simp];exact (Aq (Ar _ _)).1 2
 have d3:W.cell? ⟨w.heap.size+2,3,A4⟩=A2 (.int .i64 0):=by rw[← hW,show w.heap.size+2=((w.alloc (.cells #[.slice xa T.length xc] 24)).alloc (.cells #[.int .i64 r.id,.int .i64 r.ver,.int .i64 r.kind,.string r.lang,.slice fa r.fields.length fc] 51)).heap.size by simp];exact (Aq (Ar _ _)).1 3
 have d4:W.cell? ⟨w.heap.size+2,4,A4⟩=A2 (.int .i64 0):=by rw[← hW,show w.heap.size+2=((w.alloc (.cells #[.slice xa T.length xc] 24)).alloc (.cells #[.int .i64 r.id,.int .i64 r.ver,.int .i64 r.kind,.string r.lang,.slice fa r.fields.length fc] 51)).heap.size by simp];exact (Aq (Ar _ _)).1 4
 have d5:W.cell? ⟨w.heap.size+2,5,A4⟩=A2 (.slice ka 0 kc):=by rw[← hW,show w.heap.size+2=((w.alloc (.cells #[.slice xa T.length xc] 24)).alloc (.cells #[.int .i64 r.id,.int .i64 r.ver,.int .i64 r.kind,.string r.lang,.slice fa r.fields.length fc] 51)).heap.size by simp];exact (Aq (Ar _ _)).1 5
 have hFW:=h.below hB
 have hPW:=px.below hB
 obtain⟨L,hL⟩:∃ L,Ix.phrase (T.map (·.1)) f (ws.map (·.data.toList))=L:=⟨_,rfl⟩
 rw[Sr.evl _ (by decide)]at hb
 have hb2:decide (r.id∈L)=b:=by rw[← hL];exact hb
 have hwm:(ws.map (·.data.toList)).map (fun x=>(⟨x.toArray⟩:ByteArray))=ws:=by rw[List.map_map];exact (List.map_congr_left (fun x _=>rfl)).trans (List.map_id _)
 have XC:∀ W',A6 W.heap.size W W'→_:=fun W' h9=>r20_Phrase_c T xa xc f (ws.map (·.data.toList)) sa sc W' (hPW.below h9) hX.len hX.al (by rw[hwm];exact (hw.below hB).below h9)
 rw[List.length_map,hL]at XC
 have KC:∀ W' ia ic,DA W' ia ic L→_:=fun W' ia ic h8=>r22_Has_c L r.id ia ic W' h8
 rw[hb2]at KC
 have HXC:=J XC
 have HKC:=J KC
 clear px hX h hw XC KC hPW hFW hL hb hb2
 go_enter Kk,JF
 go_wp2
 clear hW
 go_region_held3 (fun w'=>A6 W.heap.size W w'∧w'.cell? ⟨w.heap.size,0,A4⟩=A2 (.slice xa T.length xc)∧w'.cell? ⟨w.heap.size+1,0,A4⟩=A2 (.int .i64 r.id)∧w'.cell? ⟨w.heap.size+2,1,A4⟩=A2 (.int .i64 f)∧w'.cell? ⟨w.heap.size+2,2,A4⟩=A2 (.slice sa ws.length sc))
  (first | exact⟨(Ab _ _).drew,c0,r0,d1,d2⟩ | (go_split_ands;exact⟨A8 ‹_› hbx,by repeat' first | exact A0 hbx ‹_› | constructor⟩) | (go_split_ands;exact⟨by assumption,by assumption,by assumption,by assumption,by assumption⟩))
  (first
   |(go_split_ands;go_at_call 91;((with_reducible refine (HXC.out _ ‹_›).mono ?_);rintro e wx ⟨v,rfl,ho,hbx⟩;obtain⟨va,vc,rfl,hia,_⟩:=Ix.IA.of_own ho rfl;have HIA:=J hia;clear hia ho))
   |(go_split_ands;go_at_call 51;((with_reducible refine (HKC.out _ _ _ HIA.out).mono ?_);rintro e wx ⟨rfl,rfl⟩)))
 go_split_ands
 go_wp2
 go_ret
 exact⟨rfl,A8 hB ‹_›⟩
theorem r22_Finds_5 (T:List Cx) (xa:Option Ao) (xc:Nat) (r:BF) (fa:Option Ao) (fc:Nat) (B:Nat) (ks:List Qr.Qy) (sa:Option Ao) (sc:Nat) (ka:Option Ao) (kc:Nat) (w:A9) (px:Zq w xa xc T) (h:AV w fa fc r.fields) (hK:Qr.KA B w ka kc ks) (IH:∀ k∈ks,Sr.FiC T xa xc r fa fc B k) :
  Ac A3 38 #[.agg #[.slice xa T.length xc],.agg #[.int .i64 r.id,.int .i64 r.ver,.int .i64 r.kind,.string r.lang,.slice fa r.fields.length fc],.agg #[.int .i64 5,.int .i64 0,.slice sa 0 sc,.int .i64 0,.int .i64 0,.slice ka ks.length kc]] w fun e w'=>e=.returned (.bool (DD (BQ (T.map (·.1)) r) (.mk 5 0 [] 0 0 ks)))∧A6 w.heap.size w w':=by
 obtain⟨b,hb⟩:∃ b,DD (BQ (T.map (·.1)) r) (.mk 5 0 [] 0 0 ks)=b:=⟨_,rfl⟩
 rw[hb]
 obtain⟨W,hW⟩:∃ W,((w.alloc (.cells #[.slice xa T.length xc] 24)).alloc (.cells #[.int .i64 r.id,.int .i64 r.ver,.int .i64 r.kind,.string r.lang,.slice fa r.fields.length fc] 51)).alloc (.cells #[.int .i64 5,.int .i64 0,.slice sa 0 sc,.int .i64 0,.int .i64 0,.slice ka ks.length kc] 29)=W:=⟨_,rfl⟩
 have hB:A6 w.heap.size w W:=by rw[← hW];exact ((Aa _ _).alloc (by simp) _).alloc (by simp;omega) _
 have c0:W.cell? ⟨w.heap.size,0,A4⟩=A2 (.slice xa T.length xc):=by rw[← hW];exact A0 ((Aa _ _).alloc (by simp) _) (by simp)
 have r0:W.cell? ⟨w.heap.size+1,0,A4⟩=A2 (.int .i64 r.id):=by rw[← hW];exact A0 (Aa _ _) (by simp)
 have r1:W.cell? ⟨w.heap.size+1,1,A4⟩=A2 (.int .i64 r.ver):=by rw[← hW];exact A0 (Aa _ _) (by simp)
 have r2:W.cell? ⟨w.heap.size+1,2,A4⟩=A2 (.int .i64 r.kind):=by rw[← hW];exact A0 (Aa _ _) (by simp)
 have r3:W.cell? ⟨w.heap.size+1,3,A4⟩=A2 (.string r.lang):=by rw[← hW];exact A0 (Aa _ _) (by simp)
 have r4:W.cell? ⟨w.heap.size+1,4,A4⟩=A2 (.slice fa r.fields.length fc):=by rw[← hW];exact A0 (Aa _ _) (by simp)
 have d0:W.cell? ⟨w.heap.size+2,0,A4⟩=A2 (.int .i64 5):=by rw[← hW,show w.heap.size+2=((w.alloc (.cells #[.slice xa T.length xc] 24)).alloc (.cells #[.int .i64 r.id,.int .i64 r.ver,.int .i64 r.kind,.string r.lang,.slice fa r.fields.length fc] 51)).heap.size by simp];exact (Aq (Ar _ _)).1 0
 have d1:W.cell? ⟨w.heap.size+2,1,A4⟩=A2 (.int .i64 0):=by rw[← hW,show w.heap.size+2=((w.alloc (.cells #[.slice xa T.length xc] 24)).alloc (.cells #[.int .i64 r.id,.int .i64 r.ver,.int .i64 r.kind,.string r.lang,.slice fa r.fields.length fc] 51)).heap.size by simp];exact (Aq (Ar _ _)).1 1
 have d2:W.cell? ⟨w.heap.size+2,2,A4⟩=A2 (.slice sa 0 sc):=by rw[← hW,show w.heap.size+2=((w.alloc (.cells #[.slice xa T.length xc] 24)).alloc (.cells #[.int .i64 r.id,.int .i64 r.ver,.int .i64 r.kind,.string r.lang,.slice fa r.fields.length fc] 51)).heap.size by simp];exact (Aq (Ar _ _)).1 2
 have d3:W.cell? ⟨w.heap.size+2,3,A4⟩=A2 (.int .i64 0):=by rw[← hW,show w.heap.size+2=((w.alloc (.cells #[.slice xa T.length xc] 24)).alloc (.cells #[.int .i64 r.id,.int .i64 r.ver,.int .i64 r.kind,.string r.lang,.slice fa r.fields.length fc] 51)).heap.size by simp];exact (Aq (Ar _ _)).1 3
 have d4:W.cell? ⟨w.heap.size+2,4,A4⟩=A2 (.int .i64 0):=by rw[← hW,show w.heap.size+2=((w.alloc (.cells #[.slice xa T.length xc] 24)).alloc (.cells #[.int .i64 r.id,.int .i64 r.ver,.int .i64 r.kind,.string r.lang,.slice fa r.fields.length fc] 51)).heap.size by simp];exact (Aq (Ar _ _)).1 4
 have d5:W.cell? ⟨w.heap.size+2,5,A4⟩=A2 (.slice ka ks.length kc):=by rw[← hW,show w.heap.size+2=((w.alloc (.cells #[.slice xa T.length xc] 24)).alloc (.cells #[.int .i64 r.id,.int .i64 r.ver,.int .i64 r.kind,.string r.lang,.slice fa r.fields.length fc] 51)).heap.size by simp];exact (Aq (Ar _ _)).1 5
 have hFW:=h.below hB
 have hPW:=px.below hB
 rw[Sr.ev5,Sr.cnt_all]at hb
 have HM:=J hb
 have HKW:=J (hK.below hB)
 have HF:=J hFW
 have HPX:=J hPW
 have HIH:=J IH
 have hmax:=hK.max
 have hmx:maxLen=9223372036854775807:=rfl
 clear hb hFW hPW h px hK IH
 go_enter Kk,JF
 go_wp2
 clear hW
 go_loopw [7,8] (fun n i wr=>∃ k:Nat,k≤ks.length∧i=.int .i64 k∧n=.int .i64 (Sr.cnt (DD (BQ (T.map (·.1)) r)) (ks.take k):Nat)∧A6 W.heap.size W wr) (fun _ i _=>ks.length - (Ad i).toNat)
 case atStart=>exact⟨0,Ae _,by go_num,rfl,Ab _ _⟩
 case round =>
  obtain⟨k,hk,rfl,rfl,hbr⟩:=hrel
  have hcl:=Sr.cnt_le (DD (BQ (T.map (·.1)) r)) (ks.take k)
  rw[Az]at hcl
  have zc0:=A0 hbr c0
  have zr0:=A0 hbr r0
  have zr1:=A0 hbr r1
  have zr2:=A0 hbr r2
  have zr3:=A0 hbr r3
  have zr4:=A0 hbr r4
  have zd0:=A0 hbr d0
  have zd1:=A0 hbr d1
  have zd2:=A0 hbr d2
  have zd3:=A0 hbr d3
  have zd4:=A0 hbr d4
  have zd5:=A0 hbr d5
  clear c0 r0 r1 r2 r3 r4 d0 d1 d2 d3 d4 d5
  by_cases hlt:k<ks.length
  ·obtain⟨x,hx⟩:∃ x,ks[k]?=A2 x:=⟨_,A7 hlt⟩
   obtain⟨kb,ko,xsa,xsc,xka,xkc,rfl,hkb,k0,k1,k2,k3,k4,k5,hq⟩:=(HKW.out.below hbr).get hx
   have CC:∀ W',A6 wr.heap.size wr W'→_:=fun W' h9=>HIH.out x (Ag hx) _ W' (hq.later h9) ((HPX.out.below hbr).below h9) ((HF.out.below hbr).below h9)
   have hct:=Sr.cnt_take (p:=(DD (BQ (T.map (·.1)) r))) hx
   obtain⟨t,ht⟩:∃ t,(DD (BQ (T.map (·.1)) r)) x=t:=⟨_,rfl⟩
   rw[ht]at CC hct
   obtain⟨c,hc⟩:∃ c,Sr.cnt (DD (BQ (T.map (·.1)) r)) (ks.take k)=c:=⟨_,rfl⟩
   rw[hc]at hct hcl ⊢
   have HC:=J CC
   have HCT:=J hct
   have hki:(k:Int)<(ks.length:Int):=by omega
   clear CC hx ht hq hct hc
   cases t with
   | true =>
    go_wp2
    go_region_held3 (fun w'=>A6 wr.heap.size wr w'∧w'.cell? ⟨w.heap.size,0,A4⟩=A2 (.slice xa T.length xc)∧w'.cell? ⟨w.heap.size+1,0,A4⟩=A2 (.int .i64 r.id)∧w'.cell? ⟨w.heap.size+1,1,A4⟩=A2 (.int .i64 r.ver)∧w'.cell? ⟨w.heap.size+1,2,A4⟩=A2 (.int .i64 r.kind)∧w'.cell? ⟨w.heap.size+1,3,A4⟩=A2 (.string r.lang)∧w'.cell? ⟨w.heap.size+1,4,A4⟩=A2 (.slice fa r.fields.length fc)∧w'.cell? ⟨w.heap.size+2,0,A4⟩=A2 (.int .i64 5)∧w'.cell? ⟨w.heap.size+2,1,A4⟩=A2 (.int .i64 0)∧w'.cell? ⟨w.heap.size+2,2,A4⟩=A2 (.slice sa 0 sc)∧w'.cell? ⟨w.heap.size+2,3,A4⟩=A2 (.int .i64 0)∧w'.cell? ⟨w.heap.size+2,4,A4⟩=A2 (.int .i64 0)∧w'.cell? ⟨w.heap.size+2,5,A4⟩=A2 (.slice (A2 ⟨kb,ko,A4⟩) ks.length kc)∧w'.cell? ⟨kb,ko+k*6,A4⟩=A2 (.int .i64 x.op)∧w'.cell? ⟨kb,ko+k*6+1,A4⟩=A2 (.int .i64 x.fld)∧w'.cell? ⟨kb,ko+k*6+2,A4⟩=A2 (.slice xsa x.ws.length xsc)∧w'.cell? ⟨kb,ko+k*6+3,A4⟩=A2 (.int .i64 x.a)∧w'.cell? ⟨kb,ko+k*6+4,A4⟩=A2 (.int .i64 x.b)∧w'.cell? ⟨kb,ko+k*6+5,A4⟩=A2 (.slice xka x.ks.length xkc))
     (first | exact⟨(Ab _ _).drew,zc0,zr0,zr1,zr2,zr3,zr4,zd0,zd1,zd2,zd3,zd4,zd5,k0,k1,k2,k3,k4,k5⟩ | (go_split_ands;exact⟨A8 ‹_› hbx,by repeat' first | exact A0 hbx ‹_› | constructor⟩))
     (first | (go_split_ands;go_at_call 38;((with_reducible refine (HC.out _ ‹_›).mono ?_);rintro e wx ⟨rfl,hbx⟩)))
    go_split_ands
    have hb9:A6 wr.heap.size wr wx:=by assumption
    go_wp2
    go_roundw
    case rel=>exact⟨k+1,hlt,by go_num,by rw[HCT.out];show B7 .i64 _=B7 .i64 ((c+1:Nat):Int);go_num,A8 hbr hb9⟩
    case measure=>simp[Ad];omega
   | false =>
    go_wp2
    go_region_held3 (fun w'=>A6 wr.heap.size wr w'∧w'.cell? ⟨w.heap.size,0,A4⟩=A2 (.slice xa T.length xc)∧w'.cell? ⟨w.heap.size+1,0,A4⟩=A2 (.int .i64 r.id)∧w'.cell? ⟨w.heap.size+1,1,A4⟩=A2 (.int .i64 r.ver)∧w'.cell? ⟨w.heap.size+1,2,A4⟩=A2 (.int .i64 r.kind)∧w'.cell? ⟨w.heap.size+1,3,A4⟩=A2 (.string r.lang)∧w'.cell? ⟨w.heap.size+1,4,A4⟩=A2 (.slice fa r.fields.length fc)∧w'.cell? ⟨w.heap.size+2,0,A4⟩=A2 (.int .i64 5)∧w'.cell? ⟨w.heap.size+2,1,A4⟩=A2 (.int .i64 0)∧w'.cell? ⟨w.heap.size+2,2,A4⟩=A2 (.slice sa 0 sc)∧w'.cell? ⟨w.heap.size+2,3,A4⟩=A2 (.int .i64 0)∧w'.cell? ⟨w.heap.size+2,4,A4⟩=A2 (.int .i64 0)∧w'.cell? ⟨w.heap.size+2,5,A4⟩=A2 (.slice (A2 ⟨kb,ko,A4⟩) ks.length kc)∧w'.cell? ⟨kb,ko+k*6,A4⟩=A2 (.int .i64 x.op)∧w'.cell? ⟨kb,ko+k*6+1,A4⟩=A2 (.int .i64 x.fld)∧w'.cell? ⟨kb,ko+k*6+2,A4⟩=A2 (.slice xsa x.ws.length xsc)∧w'.cell? ⟨kb,ko+k*6+3,A4⟩=A2 (.int .i64 x.a)∧w'.cell? ⟨kb,ko+k*6+4,A4⟩=A2 (.int .i64 x.b)∧w'.cell? ⟨kb,ko+k*6+5,A4⟩=A2 (.slice xka x.ks.length xkc))
     (first | exact⟨(Ab _ _).drew,zc0,zr0,zr1,zr2,zr3,zr4,zd0,zd1,zd2,zd3,zd4,zd5,k0,k1,k2,k3,k4,k5⟩ | (go_split_ands;exact⟨A8 ‹_› hbx,by repeat' first | exact A0 hbx ‹_› | constructor⟩))
     (first | (go_split_ands;go_at_call 38;((with_reducible refine (HC.out _ ‹_›).mono ?_);rintro e wx ⟨rfl,hbx⟩)))
    go_split_ands
    have hb9:A6 wr.heap.size wr wx:=by assumption
    go_wp2
    go_roundw
    case rel=>exact⟨k+1,hlt,by go_num,by rw[HCT.out];rfl,A8 hbr hb9⟩
    case measure=>simp[Ad];omega
  ·obtain rfl:k=ks.length:=by omega
   have hbf:=HM.out
   rw[Ap]at hcl ⊢
   obtain⟨c,hc⟩:∃ c,Sr.cnt (DD (BQ (T.map (·.1)) r)) ks=c:=⟨_,rfl⟩
   rw[hc]at hbf hcl ⊢
   by_cases hce:c=ks.length
   ·have t1:((c:Int) == (ks.length:Int))=true:=beq_iff_eq.2 (by omega)
    rw[decide_eq_true hce]at hbf
    subst hbf
    clear hce hc
    go_wp2
    go_ret
    exact⟨rfl,A8 hB hbr⟩
   ·have t1:((c:Int) == (ks.length:Int))=false:=beq_eq_false_iff_ne.2 (by omega)
    rw[decide_eq_false hce]at hbf
    subst hbf
    clear hce hc
    go_wp2
    go_ret
    exact⟨rfl,A8 hB hbr⟩
theorem r22_Finds_6 (T:List Cx) (xa:Option Ao) (xc:Nat) (r:BF) (fa:Option Ao) (fc:Nat) (B:Nat) (ks:List Qr.Qy) (sa:Option Ao) (sc:Nat) (ka:Option Ao) (kc:Nat) (w:A9) (px:Zq w xa xc T) (h:AV w fa fc r.fields) (hK:Qr.KA B w ka kc ks) (IH:∀ k∈ks,Sr.FiC T xa xc r fa fc B k) :
  Ac A3 38 #[.agg #[.slice xa T.length xc],.agg #[.int .i64 r.id,.int .i64 r.ver,.int .i64 r.kind,.string r.lang,.slice fa r.fields.length fc],.agg #[.int .i64 6,.int .i64 0,.slice sa 0 sc,.int .i64 0,.int .i64 0,.slice ka ks.length kc]] w fun e w'=>e=.returned (.bool (DD (BQ (T.map (·.1)) r) (.mk 6 0 [] 0 0 ks)))∧A6 w.heap.size w w':=by
 obtain⟨b,hb⟩:∃ b,DD (BQ (T.map (·.1)) r) (.mk 6 0 [] 0 0 ks)=b:=⟨_,rfl⟩
 rw[hb]
 obtain⟨W,hW⟩:∃ W,((w.alloc (.cells #[.slice xa T.length xc] 24)).alloc (.cells #[.int .i64 r.id,.int .i64 r.ver,.int .i64 r.kind,.string r.lang,.slice fa r.fields.length fc] 51)).alloc (.cells #[.int .i64 6,.int .i64 0,.slice sa 0 sc,.int .i64 0,.int .i64 0,.slice ka ks.length kc] 29)=W:=⟨_,rfl⟩
 have hB:A6 w.heap.size w W:=by rw[← hW];exact ((Aa _ _).alloc (by simp) _).alloc (by simp;omega) _
 have c0:W.cell? ⟨w.heap.size,0,A4⟩=A2 (.slice xa T.length xc):=by rw[← hW];exact A0 ((Aa _ _).alloc (by simp) _) (by simp)
 have r0:W.cell? ⟨w.heap.size+1,0,A4⟩=A2 (.int .i64 r.id):=by rw[← hW];exact A0 (Aa _ _) (by simp)
 have r1:W.cell? ⟨w.heap.size+1,1,A4⟩=A2 (.int .i64 r.ver):=by rw[← hW];exact A0 (Aa _ _) (by simp)
 have r2:W.cell? ⟨w.heap.size+1,2,A4⟩=A2 (.int .i64 r.kind):=by rw[← hW];exact A0 (Aa _ _) (by simp)
 have r3:W.cell? ⟨w.heap.size+1,3,A4⟩=A2 (.string r.lang):=by rw[← hW];exact A0 (Aa _ _) (by simp)
 have r4:W.cell? ⟨w.heap.size+1,4,A4⟩=A2 (.slice fa r.fields.length fc):=by rw[← hW];exact A0 (Aa _ _) (by simp)
 have d0:W.cell? ⟨w.heap.size+2,0,A4⟩=A2 (.int .i64 6):=by rw[← hW,show w.heap.size+2=((w.alloc (.cells #[.slice xa T.length xc] 24)).alloc (.cells #[.int .i64 r.id,.int .i64 r.ver,.int .i64 r.kind,.string r.lang,.slice fa r.fields.length fc] 51)).heap.size by simp];exact (Aq (Ar _ _)).1 0
 have d1:W.cell? ⟨w.heap.size+2,1,A4⟩=A2 (.int .i64 0):=by rw[← hW,show w.heap.size+2=((w.alloc (.cells #[.slice xa T.length xc] 24)).alloc (.cells #[.int .i64 r.id,.int .i64 r.ver,.int .i64 r.kind,.string r.lang,.slice fa r.fields.length fc] 51)).heap.size by simp];exact (Aq (Ar _ _)).1 1
 have d2:W.cell? ⟨w.heap.size+2,2,A4⟩=A2 (.slice sa 0 sc):=by rw[← hW,show w.heap.size+2=((w.alloc (.cells #[.slice xa T.length xc] 24)).alloc (.cells #[.int .i64 r.id,.int .i64 r.ver,.int .i64 r.kind,.string r.lang,.slice fa r.fields.length fc] 51)).heap.size by simp];exact (Aq (Ar _ _)).1 2
 have d3:W.cell? ⟨w.heap.size+2,3,A4⟩=A2 (.int .i64 0):=by rw[← hW,show w.heap.size+2=((w.alloc (.cells #[.slice xa T.length xc] 24)).alloc (.cells #[.int .i64 r.id,.int .i64 r.ver,.int .i64 r.kind,.string r.lang,.slice fa r.fields.length fc] 51)).heap.size by simp];exact (Aq (Ar _ _)).1 3
 have d4:W.cell? ⟨w.heap.size+2,4,A4⟩=A2 (.int .i64 0):=by rw[← hW,show w.heap.size+2=((w.alloc (.cells #[.slice xa T.length xc] 24)).alloc (.cells #[.int .i64 r.id,.int .i64 r.ver,.int .i64 r.kind,.string r.lang,.slice fa r.fields.length fc] 51)).heap.size by simp];exact (Aq (Ar _ _)).1 4
 have d5:W.cell? ⟨w.heap.size+2,5,A4⟩=A2 (.slice ka ks.length kc):=by rw[← hW,show w.heap.size+2=((w.alloc (.cells #[.slice xa T.length xc] 24)).alloc (.cells #[.int .i64 r.id,.int .i64 r.ver,.int .i64 r.kind,.string r.lang,.slice fa r.fields.length fc] 51)).heap.size by simp];exact (Aq (Ar _ _)).1 5
 have hFW:=h.below hB
 have hPW:=px.below hB
 rw[Sr.ev6,Sr.cnt_any]at hb
 have HM:=J hb
 have HKW:=J (hK.below hB)
 have HF:=J hFW
 have HPX:=J hPW
 have HIH:=J IH
 have hmax:=hK.max
 have hmx:maxLen=9223372036854775807:=rfl
 clear hb hFW hPW h px hK IH
 go_enter Kk,JF
 go_wp2
 clear hW
 go_loopw [7,8] (fun n i wr=>∃ k:Nat,k≤ks.length∧i=.int .i64 k∧n=.int .i64 (Sr.cnt (DD (BQ (T.map (·.1)) r)) (ks.take k):Nat)∧A6 W.heap.size W wr) (fun _ i _=>ks.length - (Ad i).toNat)
 case atStart=>exact⟨0,Ae _,by go_num,rfl,Ab _ _⟩
 case round =>
  obtain⟨k,hk,rfl,rfl,hbr⟩:=hrel
  have hcl:=Sr.cnt_le (DD (BQ (T.map (·.1)) r)) (ks.take k)
  rw[Az]at hcl
  have zc0:=A0 hbr c0
  have zr0:=A0 hbr r0
  have zr1:=A0 hbr r1
  have zr2:=A0 hbr r2
  have zr3:=A0 hbr r3
  have zr4:=A0 hbr r4
  have zd0:=A0 hbr d0
  have zd1:=A0 hbr d1
  have zd2:=A0 hbr d2
  have zd3:=A0 hbr d3
  have zd4:=A0 hbr d4
  have zd5:=A0 hbr d5
  clear c0 r0 r1 r2 r3 r4 d0 d1 d2 d3 d4 d5
  by_cases hlt:k<ks.length
  ·obtain⟨x,hx⟩:∃ x,ks[k]?=A2 x:=⟨_,A7 hlt⟩
   obtain⟨kb,ko,xsa,xsc,xka,xkc,rfl,hkb,k0,k1,k2,k3,k4,k5,hq⟩:=(HKW.out.below hbr).get hx
   have CC:∀ W',A6 wr.heap.size wr W'→_:=fun W' h9=>HIH.out x (Ag hx) _ W' (hq.later h9) ((HPX.out.below hbr).below h9) ((HF.out.below hbr).below h9)
   have hct:=Sr.cnt_take (p:=(DD (BQ (T.map (·.1)) r))) hx
   obtain⟨t,ht⟩:∃ t,(DD (BQ (T.map (·.1)) r)) x=t:=⟨_,rfl⟩
   rw[ht]at CC hct
   obtain⟨c,hc⟩:∃ c,Sr.cnt (DD (BQ (T.map (·.1)) r)) (ks.take k)=c:=⟨_,rfl⟩
   rw[hc]at hct hcl ⊢
   have HC:=J CC
   have HCT:=J hct
   have hki:(k:Int)<(ks.length:Int):=by omega
   clear CC hx ht hq hct hc
   cases t with
   | true =>
    go_wp2
    go_region_held3 (fun w'=>A6 wr.heap.size wr w'∧w'.cell? ⟨w.heap.size,0,A4⟩=A2 (.slice xa T.length xc)∧w'.cell? ⟨w.heap.size+1,0,A4⟩=A2 (.int .i64 r.id)∧w'.cell? ⟨w.heap.size+1,1,A4⟩=A2 (.int .i64 r.ver)∧w'.cell? ⟨w.heap.size+1,2,A4⟩=A2 (.int .i64 r.kind)∧w'.cell? ⟨w.heap.size+1,3,A4⟩=A2 (.string r.lang)∧w'.cell? ⟨w.heap.size+1,4,A4⟩=A2 (.slice fa r.fields.length fc)∧w'.cell? ⟨w.heap.size+2,0,A4⟩=A2 (.int .i64 6)∧w'.cell? ⟨w.heap.size+2,1,A4⟩=A2 (.int .i64 0)∧w'.cell? ⟨w.heap.size+2,2,A4⟩=A2 (.slice sa 0 sc)∧w'.cell? ⟨w.heap.size+2,3,A4⟩=A2 (.int .i64 0)∧w'.cell? ⟨w.heap.size+2,4,A4⟩=A2 (.int .i64 0)∧w'.cell? ⟨w.heap.size+2,5,A4⟩=A2 (.slice (A2 ⟨kb,ko,A4⟩) ks.length kc)∧w'.cell? ⟨kb,ko+k*6,A4⟩=A2 (.int .i64 x.op)∧w'.cell? ⟨kb,ko+k*6+1,A4⟩=A2 (.int .i64 x.fld)∧w'.cell? ⟨kb,ko+k*6+2,A4⟩=A2 (.slice xsa x.ws.length xsc)∧w'.cell? ⟨kb,ko+k*6+3,A4⟩=A2 (.int .i64 x.a)∧w'.cell? ⟨kb,ko+k*6+4,A4⟩=A2 (.int .i64 x.b)∧w'.cell? ⟨kb,ko+k*6+5,A4⟩=A2 (.slice xka x.ks.length xkc))
     (first | exact⟨(Ab _ _).drew,zc0,zr0,zr1,zr2,zr3,zr4,zd0,zd1,zd2,zd3,zd4,zd5,k0,k1,k2,k3,k4,k5⟩ | (go_split_ands;exact⟨A8 ‹_› hbx,by repeat' first | exact A0 hbx ‹_› | constructor⟩))
     (first | (go_split_ands;go_at_call 38;((with_reducible refine (HC.out _ ‹_›).mono ?_);rintro e wx ⟨rfl,hbx⟩)))
    go_split_ands
    have hb9:A6 wr.heap.size wr wx:=by assumption
    go_wp2
    go_roundw
    case rel=>exact⟨k+1,hlt,by go_num,by rw[HCT.out];show B7 .i64 _=B7 .i64 ((c+1:Nat):Int);go_num,A8 hbr hb9⟩
    case measure=>simp[Ad];omega
   | false =>
    go_wp2
    go_region_held3 (fun w'=>A6 wr.heap.size wr w'∧w'.cell? ⟨w.heap.size,0,A4⟩=A2 (.slice xa T.length xc)∧w'.cell? ⟨w.heap.size+1,0,A4⟩=A2 (.int .i64 r.id)∧w'.cell? ⟨w.heap.size+1,1,A4⟩=A2 (.int .i64 r.ver)∧w'.cell? ⟨w.heap.size+1,2,A4⟩=A2 (.int .i64 r.kind)∧w'.cell? ⟨w.heap.size+1,3,A4⟩=A2 (.string r.lang)∧w'.cell? ⟨w.heap.size+1,4,A4⟩=A2 (.slice fa r.fields.length fc)∧w'.cell? ⟨w.heap.size+2,0,A4⟩=A2 (.int .i64 6)∧w'.cell? ⟨w.heap.size+2,1,A4⟩=A2 (.int .i64 0)∧w'.cell? ⟨w.heap.size+2,2,A4⟩=A2 (.slice sa 0 sc)∧w'.cell? ⟨w.heap.size+2,3,A4⟩=A2 (.int .i64 0)∧w'.cell? ⟨w.heap.size+2,4,A4⟩=A2 (.int .i64 0)∧w'.cell? ⟨w.heap.size+2,5,A4⟩=A2 (.slice (A2 ⟨kb,ko,A4⟩) ks.length kc)∧w'.cell? ⟨kb,ko+k*6,A4⟩=A2 (.int .i64 x.op)∧w'.cell? ⟨kb,ko+k*6+1,A4⟩=A2 (.int .i64 x.fld)∧w'.cell? ⟨kb,ko+k*6+2,A4⟩=A2 (.slice xsa x.ws.length xsc)∧w'.cell? ⟨kb,ko+k*6+3,A4⟩=A2 (.int .i64 x.a)∧w'.cell? ⟨kb,ko+k*6+4,A4⟩=A2 (.int .i64 x.b)∧w'.cell? ⟨kb,ko+k*6+5,A4⟩=A2 (.slice xka x.ks.length xkc))
     (first | exact⟨(Ab _ _).drew,zc0,zr0,zr1,zr2,zr3,zr4,zd0,zd1,zd2,zd3,zd4,zd5,k0,k1,k2,k3,k4,k5⟩ | (go_split_ands;exact⟨A8 ‹_› hbx,by repeat' first | exact A0 hbx ‹_› | constructor⟩))
     (first | (go_split_ands;go_at_call 38;((with_reducible refine (HC.out _ ‹_›).mono ?_);rintro e wx ⟨rfl,hbx⟩)))
    go_split_ands
    have hb9:A6 wr.heap.size wr wx:=by assumption
    go_wp2
    go_roundw
    case rel=>exact⟨k+1,hlt,by go_num,by rw[HCT.out];rfl,A8 hbr hb9⟩
    case measure=>simp[Ad];omega
  ·obtain rfl:k=ks.length:=by omega
   have hbf:=HM.out
   rw[Ap]at hcl ⊢
   obtain⟨c,hc⟩:∃ c,Sr.cnt (DD (BQ (T.map (·.1)) r)) ks=c:=⟨_,rfl⟩
   rw[hc]at hbf hcl ⊢
   by_cases hce:0<c
   ·have t1:(c:Int) > 0:=by omega
    rw[decide_eq_true hce]at hbf
    subst hbf
    clear hc
    go_wp2
    go_ret
    exact⟨Tx.retb (by simp;try omega),A8 hB hbr⟩
   ·have t1:¬ (c:Int) > 0:=by omega
    rw[decide_eq_false hce]at hbf
    subst hbf
    clear hc
    go_wp2
    go_ret
    exact⟨Tx.retb (by simp;try omega),A8 hB hbr⟩
theorem r22_Finds_7 (T:List Cx) (xa:Option Ao) (xc:Nat) (r:BF) (fa:Option Ao) (fc:Nat) (B:Nat) (x y:Qr.Qy) (sa:Option Ao) (sc:Nat) (ka:Option Ao) (kc:Nat) (w:A9) (px:Zq w xa xc T) (h:AV w fa fc r.fields) (hK:Qr.KA B w ka kc [x,y]) (IX:Sr.FiC T xa xc r fa fc B x) (IY:Sr.FiC T xa xc r fa fc B y) :
  Ac A3 38 #[.agg #[.slice xa T.length xc],.agg #[.int .i64 r.id,.int .i64 r.ver,.int .i64 r.kind,.string r.lang,.slice fa r.fields.length fc],.agg #[.int .i64 7,.int .i64 0,.slice sa 0 sc,.int .i64 0,.int .i64 0,.slice ka 2 kc]] w fun e w'=>e=.returned (.bool (DD (BQ (T.map (·.1)) r) (.mk 7 0 [] 0 0 [x,y])))∧A6 w.heap.size w w':=by
 obtain⟨b,hb⟩:∃ b,DD (BQ (T.map (·.1)) r) (.mk 7 0 [] 0 0 [x,y])=b:=⟨_,rfl⟩
 rw[hb]
 obtain⟨W,hW⟩:∃ W,((w.alloc (.cells #[.slice xa T.length xc] 24)).alloc (.cells #[.int .i64 r.id,.int .i64 r.ver,.int .i64 r.kind,.string r.lang,.slice fa r.fields.length fc] 51)).alloc (.cells #[.int .i64 7,.int .i64 0,.slice sa 0 sc,.int .i64 0,.int .i64 0,.slice ka 2 kc] 29)=W:=⟨_,rfl⟩
 have hB:A6 w.heap.size w W:=by rw[← hW];exact ((Aa _ _).alloc (by simp) _).alloc (by simp;omega) _
 have c0:W.cell? ⟨w.heap.size,0,A4⟩=A2 (.slice xa T.length xc):=by rw[← hW];exact A0 ((Aa _ _).alloc (by simp) _) (by simp)
 have r0:W.cell? ⟨w.heap.size+1,0,A4⟩=A2 (.int .i64 r.id):=by rw[← hW];exact A0 (Aa _ _) (by simp)
 have r1:W.cell? ⟨w.heap.size+1,1,A4⟩=A2 (.int .i64 r.ver):=by rw[← hW];exact A0 (Aa _ _) (by simp)
 have r2:W.cell? ⟨w.heap.size+1,2,A4⟩=A2 (.int .i64 r.kind):=by rw[← hW];exact A0 (Aa _ _) (by simp)
 have r3:W.cell? ⟨w.heap.size+1,3,A4⟩=A2 (.string r.lang):=by rw[← hW];exact A0 (Aa _ _) (by simp)
 have r4:W.cell? ⟨w.heap.size+1,4,A4⟩=A2 (.slice fa r.fields.length fc):=by rw[← hW];exact A0 (Aa _ _) (by simp)
 have d0:W.cell? ⟨w.heap.size+2,0,A4⟩=A2 (.int .i64 7):=by rw[← hW,show w.heap.size+2=((w.alloc (.cells #[.slice xa T.length xc] 24)).alloc (.cells #[.int .i64 r.id,.int .i64 r.ver,.int .i64 r.kind,.string r.lang,.slice fa r.fields.length fc] 51)).heap.size by simp];exact (Aq (Ar _ _)).1 0
 have d1:W.cell? ⟨w.heap.size+2,1,A4⟩=A2 (.int .i64 0):=by rw[← hW,show w.heap.size+2=((w.alloc (.cells #[.slice xa T.length xc] 24)).alloc (.cells #[.int .i64 r.id,.int .i64 r.ver,.int .i64 r.kind,.string r.lang,.slice fa r.fields.length fc] 51)).heap.size by simp];exact (Aq (Ar _ _)).1 1
 have d2:W.cell? ⟨w.heap.size+2,2,A4⟩=A2 (.slice sa 0 sc):=by rw[← hW,show w.heap.size+2=((w.alloc (.cells #[.slice xa T.length xc] 24)).alloc (.cells #[.int .i64 r.id,.int .i64 r.ver,.int .i64 r.kind,.string r.lang,.slice fa r.fields.length fc] 51)).heap.size by simp];exact (Aq (Ar _ _)).1 2
 have d3:W.cell? ⟨w.heap.size+2,3,A4⟩=A2 (.int .i64 0):=by rw[← hW,show w.heap.size+2=((w.alloc (.cells #[.slice xa T.length xc] 24)).alloc (.cells #[.int .i64 r.id,.int .i64 r.ver,.int .i64 r.kind,.string r.lang,.slice fa r.fields.length fc] 51)).heap.size by simp];exact (Aq (Ar _ _)).1 3
 have d4:W.cell? ⟨w.heap.size+2,4,A4⟩=A2 (.int .i64 0):=by rw[← hW,show w.heap.size+2=((w.alloc (.cells #[.slice xa T.length xc] 24)).alloc (.cells #[.int .i64 r.id,.int .i64 r.ver,.int .i64 r.kind,.string r.lang,.slice fa r.fields.length fc] 51)).heap.size by simp];exact (Aq (Ar _ _)).1 4
 have d5:W.cell? ⟨w.heap.size+2,5,A4⟩=A2 (.slice ka 2 kc):=by rw[← hW,show w.heap.size+2=((w.alloc (.cells #[.slice xa T.length xc] 24)).alloc (.cells #[.int .i64 r.id,.int .i64 r.ver,.int .i64 r.kind,.string r.lang,.slice fa r.fields.length fc] 51)).heap.size by simp];exact (Aq (Ar _ _)).1 5
 have hFW:=h.below hB
 have hPW:=px.below hB
 rw[Sr.ev7]at hb
 obtain⟨kb,ko,xsa,xsc,xka,xkc,rfl,hkb,x0,x1,x2,x3,x4,x5,hqx⟩:=(hK.below hB).get (k:=0) (q:=x) rfl
 obtain⟨kb2,ko2,ysa,ysc,yka,ykc,e9,hkb2,y0,y1,y2,y3,y4,y5,hqy⟩:=(hK.below hB).get (k:=1) (q:=y) rfl
 injection e9 with e9
 injection e9 with e9 e8
 subst e9 e8
 rw[Ew,Bs]at x0
 simp only[Ew,Nat.one_mul,Bs,Nat.add_assoc,Nat.reduceAdd]at x0 x1 x2 x3 x4 x5 y0 y1 y2 y3 y4 y5
 have CX:∀ W',A6 W.heap.size W W'→_:=fun W' h9=>IX _ W' (hqx.later h9) (hPW.below h9) (hFW.below h9)
 have CY:∀ W',A6 W.heap.size W W'→_:=fun W' h9=>IY _ W' (hqy.later h9) (hPW.below h9) (hFW.below h9)
 obtain⟨t,ht⟩:∃ t,DD (BQ (T.map (·.1)) r) (x)=t:=⟨_,rfl⟩
 obtain⟨u,hu⟩:∃ u,DD (BQ (T.map (·.1)) r) (y)=u:=⟨_,rfl⟩
 rw[ht]at CX hb
 rw[hu]at CY hb
 have HCX:=J CX
 have HCY:=J CY
 subst hb
 clear CX CY ht hu hqx hqy hFW hPW px h hK IX IY hkb2
 cases t with
 | true =>
  have tu:(true&&!u)=!u:=rfl
  rw[tu]
  go_enter Kk,JF
  go_wp2
  clear hW
  go_region_held3 (fun w'=>A6 W.heap.size W w'∧w'.cell? ⟨w.heap.size,0,A4⟩=A2 (.slice xa T.length xc)∧w'.cell? ⟨w.heap.size+1,0,A4⟩=A2 (.int .i64 r.id)∧w'.cell? ⟨w.heap.size+1,1,A4⟩=A2 (.int .i64 r.ver)∧w'.cell? ⟨w.heap.size+1,2,A4⟩=A2 (.int .i64 r.kind)∧w'.cell? ⟨w.heap.size+1,3,A4⟩=A2 (.string r.lang)∧w'.cell? ⟨w.heap.size+1,4,A4⟩=A2 (.slice fa r.fields.length fc)∧w'.cell? ⟨w.heap.size+2,0,A4⟩=A2 (.int .i64 7)∧w'.cell? ⟨w.heap.size+2,1,A4⟩=A2 (.int .i64 0)∧w'.cell? ⟨w.heap.size+2,2,A4⟩=A2 (.slice sa 0 sc)∧w'.cell? ⟨w.heap.size+2,3,A4⟩=A2 (.int .i64 0)∧w'.cell? ⟨w.heap.size+2,4,A4⟩=A2 (.int .i64 0)∧w'.cell? ⟨w.heap.size+2,5,A4⟩=A2 (.slice (A2 ⟨kb,ko,A4⟩) 2 kc)∧w'.cell? ⟨kb,ko,A4⟩=A2 (.int .i64 x.op)∧w'.cell? ⟨kb,ko+1,A4⟩=A2 (.int .i64 x.fld)∧w'.cell? ⟨kb,ko+2,A4⟩=A2 (.slice xsa x.ws.length xsc)∧w'.cell? ⟨kb,ko+3,A4⟩=A2 (.int .i64 x.a)∧w'.cell? ⟨kb,ko+4,A4⟩=A2 (.int .i64 x.b)∧w'.cell? ⟨kb,ko+5,A4⟩=A2 (.slice xka x.ks.length xkc)∧w'.cell? ⟨kb,ko+6,A4⟩=A2 (.int .i64 y.op)∧w'.cell? ⟨kb,ko+7,A4⟩=A2 (.int .i64 y.fld)∧w'.cell? ⟨kb,ko+8,A4⟩=A2 (.slice ysa y.ws.length ysc)∧w'.cell? ⟨kb,ko+9,A4⟩=A2 (.int .i64 y.a)∧w'.cell? ⟨kb,ko+10,A4⟩=A2 (.int .i64 y.b)∧w'.cell? ⟨kb,ko+11,A4⟩=A2 (.slice yka y.ks.length ykc))
   (first | exact⟨(Ab _ _).drew,c0,r0,r1,r2,r3,r4,d0,d1,d2,d3,d4,d5,x0,x1,x2,x3,x4,x5,y0,y1,y2,y3,y4,y5⟩ | (go_split_ands;exact⟨A8 ‹_› hbx,by repeat' first | exact A0 hbx ‹_› | constructor⟩))
   (first
    |(go_split_ands;go_at_call 38;((with_reducible refine (HCX.out _ ‹_›).mono ?_);rintro e wx ⟨rfl,hbx⟩))
    |(go_split_ands;go_at_call 38;((with_reducible refine (HCY.out _ ‹_›).mono ?_);rintro e wx ⟨rfl,hbx⟩)))
  go_split_ands
  have hb9:A6 W.heap.size W wx:=by assumption
  go_wp2
  go_ret
  exact⟨rfl,A8 hB hb9⟩
 | false =>
  go_enter Kk,JF
  go_wp2
  clear hW
  refine wp_region_held_drew (S:=(fun w'=>A6 W.heap.size W w'∧w'.cell? ⟨w.heap.size,0,A4⟩=A2 (.slice xa T.length xc)∧w'.cell? ⟨w.heap.size+1,0,A4⟩=A2 (.int .i64 r.id)∧w'.cell? ⟨w.heap.size+1,1,A4⟩=A2 (.int .i64 r.ver)∧w'.cell? ⟨w.heap.size+1,2,A4⟩=A2 (.int .i64 r.kind)∧w'.cell? ⟨w.heap.size+1,3,A4⟩=A2 (.string r.lang)∧w'.cell? ⟨w.heap.size+1,4,A4⟩=A2 (.slice fa r.fields.length fc)∧w'.cell? ⟨w.heap.size+2,0,A4⟩=A2 (.int .i64 7)∧w'.cell? ⟨w.heap.size+2,1,A4⟩=A2 (.int .i64 0)∧w'.cell? ⟨w.heap.size+2,2,A4⟩=A2 (.slice sa 0 sc)∧w'.cell? ⟨w.heap.size+2,3,A4⟩=A2 (.int .i64 0)∧w'.cell? ⟨w.heap.size+2,4,A4⟩=A2 (.int .i64 0)∧w'.cell? ⟨w.heap.size+2,5,A4⟩=A2 (.slice (A2 ⟨kb,ko,A4⟩) 2 kc)∧w'.cell? ⟨kb,ko,A4⟩=A2 (.int .i64 x.op)∧w'.cell? ⟨kb,ko+1,A4⟩=A2 (.int .i64 x.fld)∧w'.cell? ⟨kb,ko+2,A4⟩=A2 (.slice xsa x.ws.length xsc)∧w'.cell? ⟨kb,ko+3,A4⟩=A2 (.int .i64 x.a)∧w'.cell? ⟨kb,ko+4,A4⟩=A2 (.int .i64 x.b)∧w'.cell? ⟨kb,ko+5,A4⟩=A2 (.slice xka x.ks.length xkc)∧w'.cell? ⟨kb,ko+6,A4⟩=A2 (.int .i64 y.op)∧w'.cell? ⟨kb,ko+7,A4⟩=A2 (.int .i64 y.fld)∧w'.cell? ⟨kb,ko+8,A4⟩=A2 (.slice ysa y.ws.length ysc)∧w'.cell? ⟨kb,ko+9,A4⟩=A2 (.int .i64 y.a)∧w'.cell? ⟨kb,ko+10,A4⟩=A2 (.int .i64 y.b)∧w'.cell? ⟨kb,ko+11,A4⟩=A2 (.slice yka y.ks.length ykc))) (by kernel_rfl) ?_ (fun hHeld=>?_)
  ·(first | exact⟨(Ab _ _).drew,c0,r0,r1,r2,r3,r4,d0,d1,d2,d3,d4,d5,x0,x1,x2,x3,x4,x5,y0,y1,y2,y3,y4,y5⟩ | (go_split_ands;exact⟨A8 ‹_› hbx,by repeat' first | exact A0 hbx ‹_› | constructor⟩))
  refine C0 (i:=0) (oi:=⟨A2 62,_,_,_,_,_⟩) (v:=.agg #[.slice xa T.length xc]) rfl (by kernel_rfl) (by kernel_rfl) (by kernel_rfl) (fun _ _ _ h=>h) (F2 ⟨by rfl,?_⟩) ‹_› ?_
  ·intro w hSw;(try dsimp only at hSw);go_simp
  simp only[DI,AJ,B4,B5]
  refine C0 (i:=1) (oi:=⟨A2 63,_,_,_,_,_⟩) (v:=.agg #[.int .i64 r.id,.int .i64 r.ver,.int .i64 r.kind,.string r.lang,.slice fa r.fields.length fc]) rfl (by kernel_rfl) (by kernel_rfl) (by kernel_rfl) (fun _ _ _ h=>h) (F2 ⟨by rfl,?_⟩) ‹_› ?_
  ·intro w hSw;(try dsimp only at hSw);go_simp
  simp only[DI,AJ,B4,B5]
  refine C0 (i:=2) (oi:=⟨A2 64,_,_,_,_,_⟩) (v:=.pointer (A2 ⟨w.heap.size+2,5,A4⟩)) rfl (by kernel_rfl) (by kernel_rfl) (by kernel_rfl) (fun _ _ _ h=>h) (F2 ⟨by rfl,?_⟩) ‹_› ?_
  ·intro w hSw;(try dsimp only at hSw);go_simp
  simp only[DI,AJ,B4,B5]
  refine C0 (i:=3) (oi:=⟨A2 65,_,_,_,_,_⟩) (v:=.slice (A2 ⟨kb,ko,A4⟩) 2 kc) rfl (by kernel_rfl) (by kernel_rfl) (by kernel_rfl) (fun _ _ _ h=>h) (F2 ⟨by rfl,?_⟩) ‹_› ?_
  ·intro w hSw;(try dsimp only at hSw);go_simp
  simp only[DI,AJ,B4,B5]
  refine C0 (i:=4) (oi:=⟨A2 66,_,_,_,_,_⟩) (v:=.pointer (A2 ⟨kb,ko,A4⟩)) rfl (by kernel_rfl) (by kernel_rfl) (by kernel_rfl) (fun _ _ _ h=>h) (F2 ⟨by rfl,?_⟩) ‹_› ?_
  ·intro w hSw;(try dsimp only at hSw);go_simp
  simp only[DI,AJ,B4,B5]
  refine C0 (i:=5) (oi:=⟨A2 67,_,_,_,_,_⟩) (v:=.agg #[.int .i64 x.op,.int .i64 x.fld,.slice xsa x.ws.length xsc,.int .i64 x.a,.int .i64 x.b,.slice xka x.ks.length xkc]) rfl (by kernel_rfl) (by kernel_rfl) (by kernel_rfl) (fun _ _ _ h=>h) (F2 ⟨by rfl,?_⟩) ‹_› ?_
  ·intro w hSw;(try dsimp only at hSw);go_simp
  simp only[DI,AJ,B4,B5]
  refine wpAnyH_ready (rs:=[6]) (by kernel_rfl) (by simp) ?_
  refine AllReadyH.cons (o:=⟨A2 68,_,_,_,_,_⟩) rfl (fun K hK=>?_) AllReadyH.nil
  go_simp
  go_split_ands
  go_at_call 38
  refine (HCX.out _ ‹_›).mono ?_
  rintro e wx ⟨rfl,hbx⟩
  go_wp2_with fail
  refine hK.out _ _ ?_ (fun hHeld=>?_)
  ·(first | exact⟨(Ab _ _).drew,c0,r0,r1,r2,r3,r4,d0,d1,d2,d3,d4,d5,x0,x1,x2,x3,x4,x5,y0,y1,y2,y3,y4,y5⟩ | (go_split_ands;exact⟨A8 ‹_› hbx,by repeat' first | exact A0 hbx ‹_› | constructor⟩))
  clear hK K
  try simp only[DI,AJ,B4,B5]
  refine C0 (i:=7) (oi:=⟨A2 69,_,_,_,_,_⟩) (v:=.bool false) rfl (by kernel_rfl) (by kernel_rfl) (by kernel_rfl) (fun _ _ _ h=>h) (F2 ⟨by rfl,?_⟩) ‹_› ?_
  ·intro w hSw;(try dsimp only at hSw);go_simp
  simp only[DI,AJ,B4,B5]
  refine C0 (i:=8) (oi:=⟨A2 70,_,_,_,_,_⟩) (v:=undef) rfl (by kernel_rfl) (by kernel_rfl) (by kernel_rfl) (fun _ _ _ h=>h) (G9 ⟨by rfl,rfl⟩) ‹_› ?_
  simp only[DI,AJ,B4,B5]
  refine C0 (i:=9) (oi:=⟨A2 71,_,_,_,_,_⟩) (v:=undef) rfl (by kernel_rfl) (by kernel_rfl) (by kernel_rfl) (fun _ _ _ h=>h) (G9 ⟨by rfl,rfl⟩) ‹_› ?_
  simp only[DI,AJ,B4,B5]
  refine C0 (i:=10) (oi:=⟨A2 72,_,_,_,_,_⟩) (v:=undef) rfl (by kernel_rfl) (by kernel_rfl) (by kernel_rfl) (fun _ _ _ h=>h) (G9 ⟨by rfl,rfl⟩) ‹_› ?_
  simp only[DI,AJ,B4,B5]
  refine C0 (i:=11) (oi:=⟨A2 73,_,_,_,_,_⟩) (v:=undef) rfl (by kernel_rfl) (by kernel_rfl) (by kernel_rfl) (fun _ _ _ h=>h) (G9 ⟨by rfl,rfl⟩) ‹_› ?_
  simp only[DI,AJ,B4,B5]
  refine C0 (i:=12) (oi:=⟨A2 74,_,_,_,_,_⟩) (v:=undef) rfl (by kernel_rfl) (by kernel_rfl) (by kernel_rfl) (fun _ _ _ h=>h) (G9 ⟨by rfl,rfl⟩) ‹_› ?_
  simp only[DI,AJ,B4,B5]
  refine C0 (i:=13) (oi:=⟨A2 75,_,_,_,_,_⟩) (v:=undef) rfl (by kernel_rfl) (by kernel_rfl) (by kernel_rfl) (fun _ _ _ h=>h) (G9 ⟨by rfl,rfl⟩) ‹_› ?_
  simp only[DI,AJ,B4,B5]
  refine C0 (i:=14) (oi:=⟨A2 76,_,_,_,_,_⟩) (v:=undef) rfl (by kernel_rfl) (by kernel_rfl) (by kernel_rfl) (fun _ _ _ h=>h) (G9 ⟨by rfl,rfl⟩) ‹_› ?_
  simp only[DI,AJ,B4,B5]
  refine C0 (i:=15) (oi:=⟨A2 77,_,_,_,_,_⟩) (v:=undef) rfl (by kernel_rfl) (by kernel_rfl) (by kernel_rfl) (fun _ _ _ h=>h) (G9 ⟨by rfl,rfl⟩) ‹_› ?_
  simp only[DI,AJ,B4,B5]
  refine C0 (i:=16) (oi:=⟨A2 78,_,_,_,_,_⟩) (v:=.bool false) rfl (by kernel_rfl) (by kernel_rfl) (by kernel_rfl) (fun _ _ _ h=>h) (F2 ⟨by rfl,?_⟩) ‹_› ?_
  ·intro w hSw;(try dsimp only at hSw);go_simp
  simp only[DI,AJ,B4,B5]
  refine C0 (i:=17) (oi:=⟨A2 6,_,_,_,_,_⟩) (v:=.bool false) rfl (by kernel_rfl) (by kernel_rfl) (by kernel_rfl) (fun _ _ _ h=>h) (F2 ⟨by rfl,?_⟩) ‹_› ?_
  ·intro w hSw;(try dsimp only at hSw);go_simp
  simp only[DI,AJ,B4,B5]
  refine wpAnyH_done (by kernel_rfl) ?_ _
  go_split_ands
  have hb9:A6 W.heap.size W wx:=by assumption
  go_wp2
  go_ret
  exact⟨rfl,A8 hB hb9⟩
theorem r22_Finds_c (T:List Cx) (xa:Option Ao) (xc:Nat) (r:BF) (fa:Option Ao) (fc B:Nat) (hX:Mj T) (hR:Sr.Rg r):∀ q,Sr.Rq q→Sr.FiC T xa xc r fa fc B q:=by
 refine Qr.Qy.ind ?_
 intro o f ws a b ks ih hq cs w hc px h
 obtain⟨sa,sc,ka,kc,rfl,hw,_,hK⟩:=hc.kids
 dsimp only[Qr.Qy.op,Qr.Qy.fld,Qr.Qy.a,Qr.Qy.b,Qr.Qy.ks,Qr.Qy.ws]at hw hK ⊢
 have hS:ws≠[]→SLA w sa sc ws:=fun hne=>by
  obtain⟨a9,c9,e,h9⟩:=hw.sla
  injection e with e1 e2 e3
  subst e1 e3
  exact h9 hne
 have hne:1≤ws.length→ws≠[]:=fun h9 e=>by rw[e]at h9;exact absurd h9 (by decide)
 cases hq with
 | term h1 h2 h3 h5 h4 =>
  rcases h1 with rfl | rfl | rfl
  ·obtain⟨y,rfl⟩:=E2.1 (h5 (by decide))
   exact r22_Finds_1 T xa xc r fa fc f y sa sc ka kc w px hX h (hS (hne h3.1))
  ·obtain⟨y,rfl⟩:=E2.1 (h5 (by decide))
   exact r22_Finds_2 T xa xc r fa fc f y sa sc ka kc w px hX h (hS (hne h3.1))
  ·exact r22_Finds_3 T xa xc r fa fc f ws sa sc ka kc w px hX h (hS (hne h3.1))
 | years h1 h2=>exact r22_Finds_4 T xa xc r fa fc a b sa sc ka kc w px h hR
 | kids h1 h2 h4 h3 =>
  rcases h1 with rfl | rfl | rfl
  ·exact r22_Finds_5 T xa xc r fa fc B ks sa sc ka kc w px h hK fun k hk=>ih k hk (h3 k hk)
  ·exact r22_Finds_6 T xa xc r fa fc B ks sa sc ka kc w px h hK fun k hk=>ih k hk (h3 k hk)
  ·obtain⟨x,y,rfl⟩:∃ x y,ks=[x,y]:=by
    have h6:=h4 rfl
    match ks,h6 with
    | [x,y],_=>exact⟨x,y,rfl⟩
   exact r22_Finds_7 T xa xc r fa fc B x y sa sc ka kc w px h hK (ih x AY (h3 x AY)) (ih y (Bw _ AY) (h3 y (Bw _ AY)))
theorem r22_Eval_c (T:List Cx) (xa:Option Ao) (xc:Nat) (l:List BF) (la:Option Ao) (lc B:Nat) (q:Qr.Qy) (cs:List Value) (w:A9) (px:Zq w xa xc T) (hX:Mj T) (rl:Rc.RdA w la lc l) (hR:∀ r∈l,Sr.Rg r) (hl:l.length≤1000000) (hq:Qr.QC B w q cs) (hrq:Sr.Rq q) :
  Ac A3 16 #[.agg #[.slice xa T.length xc],.slice la l.length lc,.agg cs.toArray] w fun e w'=>∃ a c,e=.returned (.slice a (J0 (T.map (·.1)) l q).length c)∧DA w' a c (J0 (T.map (·.1)) l q)∧(∀ g,a=A2 g→w.heap.size≤g.block)∧A6 w.heap.size w w':=by
 obtain⟨sa,sc,ka,kc,rfl,_,_,_⟩:=hq.kids
 obtain⟨W,hW⟩:∃ W,(w.alloc (.cells #[.slice xa T.length xc] 24)).alloc (.cells #[.int .i64 q.op,.int .i64 q.fld,.slice sa q.ws.length sc,.int .i64 q.a,.int .i64 q.b,.slice ka q.ks.length kc] 29)=W:=⟨_,rfl⟩
 have hB:A6 w.heap.size w W:=by rw[← hW];exact (Aa _ _).alloc (by simp) _
 have hWs:W.heap.size=w.heap.size+2:=by rw[← hW];simp
 have c0:W.cell? ⟨w.heap.size,0,A4⟩=A2 (.slice xa T.length xc):=by rw[← hW];simp
 have d0:W.cell? ⟨w.heap.size+1,0,A4⟩=A2 (.int .i64 q.op):=by rw[← hW];simp
 have d1:W.cell? ⟨w.heap.size+1,1,A4⟩=A2 (.int .i64 q.fld):=by rw[← hW];simp
 have d2:W.cell? ⟨w.heap.size+1,2,A4⟩=A2 (.slice sa q.ws.length sc):=by rw[← hW];simp
 have d3:W.cell? ⟨w.heap.size+1,3,A4⟩=A2 (.int .i64 q.a):=by rw[← hW];simp
 have d4:W.cell? ⟨w.heap.size+1,4,A4⟩=A2 (.int .i64 q.b):=by rw[← hW];simp
 have d5:W.cell? ⟨w.heap.size+1,5,A4⟩=A2 (.slice ka q.ks.length kc):=by rw[← hW];simp
 have HPX:=J (px.below hB)
 have HRL:=J (rl.below hB)
 have HQ:=J (hq.later hB)
 have HF:=J (fun (r:BF) (hr:r∈l) (fa:Option Ao) (fc:Nat)=>r22_Finds_c T xa xc r fa fc B hX (hR r hr) q hrq)
 have hcap:=rl.cap
 have hmax:=rl.max
 have hmx:maxLen=9223372036854775807:=rfl
 have HEV:Hid (∀ L,L=Ca Bk ((l.filter fun r=>DD (BQ (T.map (·.1)) r) (q)).map (·.id))→L=J0 (T.map (·.1)) l q):=J (fun L h=>h)
 clear px hX rl hR hq hrq
 go_enter Tryz.func16,Tryz.ntmps16
 go_wp2
 clear hW
 go_loopw [7,8] (fun v i wr=>∃ (k b o c:Nat) (L:List Int),k≤l.length∧i=.int .i64 k∧v=.slice (A2 ⟨b,o,A4⟩) L.length c∧Hid (L=Ca Bk (((l.take k).filter fun r=>DD (BQ (T.map (·.1)) r) (q)).map (·.id)))∧L.length≤k∧Hid (Cs.LA (B7 .i64) wr b o c L)∧w.heap.size≤b∧A6 W.heap.size W wr) (fun _ i _=>l.length - (Ad i).toNat)
 case atStart=>exact⟨0,W.heap.size,0,0,[],Ae _,by go_num,by first | rfl | simp,J (by simp[Ca]),Ae _,J ⟨Nat.le_refl _,by omega,by simp,fun j x hx=>by simp at hx⟩,by omega,Aa _ _⟩
 case round =>
  obtain⟨k,b,o,c,L,hk,rfl,rfl,hT,hLk,hown,hbB,hb⟩:=hrel
  have hbs:=hb.size
  have z0:=A0 hb c0
  have e0:=A0 hb d0
  have e1:=A0 hb d1
  have e2:=A0 hb d2
  have e3:=A0 hb d3
  have e4:=A0 hb d4
  have e5:=A0 hb d5
  by_cases hlt:k<l.length
  ·obtain⟨x,hx⟩:∃ x,l[k]?=A2 x:=⟨_,A7 hlt⟩
   obtain⟨xb,xo,fa,fc,rfl,hbl,x0,x1,x2,x3,x4,hfx⟩:=(HRL.out.below hb).get hx
   have hst:(l.take (k+1)).filter (fun r=>DD (BQ (T.map (·.1)) r) (q))=(l.take k).filter (fun r=>DD (BQ (T.map (·.1)) r) (q))++(if DD (BQ (T.map (·.1)) x) (q)=true then [x] else []):=by
    rw[List.take_add_one,hx,Dc]
    by_cases hp:DD (BQ (T.map (·.1)) x) (q)=true <;> simp[hp]
   have CC:∀ W',A6 wr.heap.size wr W'→_:=fun W' h9=>HF.out x (Ag hx) fa fc _ W' ((HQ.out.later hb).later h9) ((HPX.out.below hb).below h9) (hfx.below h9)
   obtain⟨t,ht⟩:∃ t,DD (BQ (T.map (·.1)) x) (q)=t:=⟨_,rfl⟩
   rw[ht]at CC hst
   have HC:=J CC
   have hki:(k:Int)<(l.length:Int):=by omega
   clear CC hx hfx ht
   cases t with
   | true =>
    rw[if_pos rfl]at hst
    have HST:Hid (Cp.put Bk L x.id=Ca Bk (((l.take (k+1)).filter fun r=>DD (BQ (T.map (·.1)) r) (q)).map (·.id))):=J (by
     rw[hst,List.map_append,hT.out]
     unfold Ca
     rw[List.foldl_append]
     rfl)
    have hpl:=Sr.put_len Bk x.id L
    clear hst hT
    go_wp2
    go_still_tail 6,(by kernel_rfl)
    have hbq:A6 wr.heap.size wr wr.drew:=(Ab _ _).drew
    change wpList _ _ _ _ _ wr.drew
    generalize wr.drew=U6 at hbq ⊢
    go_wp2_with (first
     |(go_at_call 38;((with_reducible refine (HC.out _ hbq).mono ?_);rintro e w1 ⟨rfl,hb1⟩;have hq1:=A8 hbq hb1;have HOW:=J (hown.out.below hq1);have s0:=A0 hq1 x0))
     |(go_at_call 39;((with_reducible refine (r22_Put_c L b o c x.id _ HOW.out (by omega)).mono ?_);rintro e w2 ⟨b2,o2,c2,rfl,hla2,hb2,hbb2⟩;have HLA:=J hla2;clear hla2)))
    go_roundw
    case rel=>exact⟨k+1,b2,o2,c2,_,hlt,by go_num,rfl,HST,by omega,HLA,by have:=hq1.size;omega,A8 (A8 hb hq1) hbb2⟩
    case measure=>simp[Ad];omega
   | false =>
    rw[if_neg (by decide),List.append_nil]at hst
    have HST:Hid (L=Ca Bk (((l.take (k+1)).filter fun r=>DD (BQ (T.map (·.1)) r) (q)).map (·.id))):=J (by rw[hst];exact hT.out)
    clear hst hT
    go_wp2
    go_still_tail 6,(by kernel_rfl)
    have hbq:A6 wr.heap.size wr wr.drew:=(Ab _ _).drew
    change wpList _ _ _ _ _ wr.drew
    generalize wr.drew=U6 at hbq ⊢
    go_wp2_with (go_at_call 38;((with_reducible refine (HC.out _ hbq).mono ?_);rintro e w1 ⟨rfl,hb1⟩;have hq1:=A8 hbq hb1;have HOW:=J (hown.out.below hq1)))
    go_roundw
    case rel=>exact⟨k+1,b,o,c,L,hlt,by go_num,rfl,HST,by omega,HOW,hbB,A8 hb hq1⟩
    case measure=>simp[Ad];omega
  ·obtain rfl:k=l.length:=by omega
   have hfin:=HEV.out L (by rw[hT.out,Ap])
   have HFN:=J hfin
   clear hfin hT
   go_wp2
   go_ret
   rw[← HFN.out]
   exact⟨_,_,rfl,Sr.la_ia hown.out,fun g hg=>by injection hg with hg;rw[← hg];exact hbB,A8 hB hb⟩
end Go.Proofs.YtlakomilichhnaaGreatDoor
