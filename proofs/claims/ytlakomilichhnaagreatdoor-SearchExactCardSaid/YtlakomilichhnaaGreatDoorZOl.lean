/- Texts of this seat's, what the claim needs of them. -/
import Derived.Test.YtlakomilichhnaaGreatDoorZShelf
import Derived.Test.YtlakomilichhnaaGreatDoorZOt
import Derived.Deep.LoopGhost
import Derived.Lib.OthersKept
import Derived.Laws.OwnMore
import Derived.Deep.AppendLies
import Derived.Maps.AppendAt
namespace Go.Proofs.YtlakomilichhnaaGreatDoor
set_option maxHeartbeats 800000
set_option maxRecDepth 100000
open Go.RowKit
open Builtin renaming append_→NY
open Ending renaming returned→Eh
open Go renaming Addr→Ao,Calls→Ac,TypeId→Bd,Value→Ah,World→A9,cell_later→A0
open Lib renaming OthersKept→Ms,byteCells→Fv,hid→J,size_eq→Ak
open List renaming eq_nil_of_length_eq_zero→Aw,flatMap_cons→DR,getElem?_eq_some_iff→Ai,getElem?_map→AE,length_append→Af,length_cons→AO,length_drop→AG,length_map→At
open Nat renaming le_refl→An,le_trans→AK,lt_of_lt_of_le→B1,succ_mul→Hv,zero_add→D9
open Option renaming none→A4,some→A2
open Proofs.Tryz renaming prog→A3
open RowKit renaming Below→A6
open Value renaming string→AW
open _root_.Array renaming getElem?_eq_some_iff→AN
namespace Tx
theorem ret1 {k:IntKind}{a b:Int} (h:a=b):Eh (.int k a)=.returned (.int k b):=by rw[h]
theorem retb {a b:Bool} (h:a=b):Eh (.bool a)=.returned (.bool b):=by rw[h]
theorem rets {a b:ByteArray} (h:a=b):Eh (.string a)=.returned (.string b):=by rw[h]
theorem drop_ne {l:List UInt8}{k:Nat} (h:k<l.length):l.drop k≠[]:=by
 intro h0
 have:=congrArg List.length h0
 rw[AG]at this
 simp at this
 omega
end Tx
structure G (w:A9):Prop where
 u:Lib.Utf8Tabs 1 2 w
 p : Lib.TabIs A3 w "internal/strconv.uint64pow10" .u64 Lib.pow10Tab
 m:∃ m,w.cell? ⟨0,0,A4⟩=A2 (.int .i64 m)
 es:∃ te pe,w.cell? ⟨3,0,A4⟩=A2 (.iface te pe)
 er:∃ te pe,w.cell? ⟨4,0,A4⟩=A2 (.iface te pe)
 lo:5<w.heap.size
theorem G.below {w w':A9} (h:G w) (hb:A6 w.heap.size w w'):G w':=by
 obtain⟨m,hm⟩:=h.m
 obtain⟨te,pe,hs⟩:=h.es
 obtain⟨tf,pf,hr⟩:=h.er
 exact⟨Utf8Tabs_below h.u hb,var?_below hb (by kernel_rfl) h.lo h.p,⟨m,A0 hb hm⟩,⟨te,pe,A0 hb hs⟩,⟨tf,pf,A0 hb hr⟩,B1 h.lo hb.size⟩
namespace Tx
theorem decide_blank (c:Nat):((c:Int) == 32||(c:Int) == 160)=blank c:=by
 have e1:((c:Int) == 32)=(c == 32):=by rw[Bool.eq_iff_iff];simp;omega
 have e2:((c:Int) == 160)=(c == 160):=by rw[Bool.eq_iff_iff];simp;omega
 rw[e1,e2];rfl
theorem spans_len (p:Nat→Bool) (s:ByteArray):∀ (f pos:Nat) (st:Option Nat) (acc:List (Nat × Nat)),(Lib.spansFromP p s f pos st acc).1.length≤acc.length+f
 | 0,pos,st,acc=>by simp[Lib.spansFromP]
 | f+1,pos,st,acc=>by
  unfold Lib.spansFromP
  repeat' split
  ·have h:=spans_len p s f (pos+(Utf8.decode s pos).2) A4 (acc++[(‹Nat›,pos)])
   rw[Af]at h
   simp at h
   omega
  all_goals first | (refine AK (spans_len p s f _ _ _) ?_;omega) | simp
theorem fields_len (p:Nat→Bool) (s:ByteArray):(Lib.goFieldsP p s).length≤s.size+1:=by
 unfold Lib.goFieldsP Lib.spansOfP Lib.closeSpans
 have:=spans_len p s s.size 0 A4 []
 rw[At]
 split
 ·rw[Af];simp at this ⊢;omega
 ·simp at this;omega
theorem cleanFold_len:∀ (n:Nat) (l:List UInt8) (out:List UInt8) (gap:Bool),l.length≤n→(foldT cleanStep (out,gap) l).1.length≤out.length+2*l.length
 | 0,l,out,gap,h=>by
  have:l=[]:=Aw (by omega)
  subst this
  rw[foldT_nil]
  simp
 | n+1,l,out,gap,h=>by
  by_cases hne:l=[]
  ·subst hne
   rw[foldT_nil]
   simp
  ·have hw:=wid_pos l
   have hl:=wid_le hne
   rw[foldT_step cleanStep _ hne]
   have ih:=fun o g=>cleanFold_len n (l.drop (wid l)) o g (by rw[AG];omega)
   have e:(cleanStep (out,gap) (l.take (wid l)) (rdec l).1).1.length≤out.length+1+wid l:=by
    unfold cleanStep
    repeat' split
    all_goals simp only[Af,List.length_take,AO,List.length_nil]
    all_goals omega
   have h2:=ih (cleanStep (out,gap) (l.take (wid l)) (rdec l).1).1 (cleanStep (out,gap) (l.take (wid l)) (rdec l).1).2
   rw[AG]at h2
   refine AK h2 ?_
   omega
theorem clean_len (l:List UInt8):(clean l).length≤2*l.length:=by
 have:=cleanFold_len l.length l [] false (An _)
 simpa [clean] using this
theorem own_cells {w:A9}{B e cap A:Nat}{xs:List ByteArray} (h:w.ownsRow B e 1 (.slice (A2 ⟨A,0,A4⟩) xs.length cap) xs.length (xs.map AW)) :
  ∀ (j:Nat) x,xs[j]?=A2 x→w.cell? ⟨A,0+j,A4⟩=A2 (.string x):=by
 intro j x hx
 have hj:j<xs.length:=(Ai.1 hx).1
 rw[D9,h.cellAt j (by omega),AE,hx]
 rfl
theorem own_lt {w:A9}{B e n m cap A:Nat}{xs:List Ah} (h:w.ownsRow B e 1 (.slice (A2 ⟨A,0,A4⟩) m cap) n xs):A<w.heap.size:=(h.lt A rfl).2
end Tx
theorem text_blank_c (c:Nat) (w:A9) :
  Ac A3 168 #[.int .i32 c] w fun e w'=>e=.returned (.bool (Tx.blank c))∧A6 w.heap.size w w':=by
 go_enter Tryz.func168,Tryz.ntmps168
 go_wp2
 all_goals
  go_ret
  refine⟨Tx.retb ?_,Below.refl _ _⟩
  rw[← Tx.decide_blank] <;> simp[*]
theorem text_blank_enters:∀ args w,(callFunc 168 args).run A3 w=.ok (.enter 168 args) w:=enters_of Tryz.func168 (by kernel_rfl) rfl
theorem text_Clean_c (s:ByteArray) (w:A9) (hs:s.size≤1000000000) (hv:Tx.valid s.data.toList=true) :
  Ac A3 99 #[.string s] w fun e w'=>e=.returned (.string ⟨(Tx.clean s.data.toList).toArray⟩)∧A6 w.heap.size w w':=by
 have hce:=Tx.clean_eq s hv
 have hcl:=Tx.clean_len s.data.toList
 rw[← Ak]at hcl
 have hfl:=Tx.fields_len Tx.blank s
 have HE:=J hce;clear hce
 have HV:=J hv;clear hv
 have hp:PredGrows A3 168 #[] Tx.blank w:=fun W x _ _=>text_blank_c x W
 have HP:=J hp;clear hp
 go_enter Tryz.func99,Tryz.ntmps99
 go_wp2_with (first
  |(go_at_call 167;refine (Tryz.strings_FieldsFunc_grows 168 #[] text_blank_enters Tx.blank s _ (by omega) HP.out).mono ?_;rintro e w1 ⟨A,rfl,hA,hown,hb1⟩)
  |(go_at_call 166;refine (Tryz.strings_Join A 0 _ (Lib.goFieldsP Tx.blank s) ⟨#[32]⟩ _ (Tx.own_cells hown) (Tx.own_lt hown) (by omega) (An _) (by rw[HE.out];omega)).mono ?_;rintro e w2 ⟨rfl,hb2⟩))
 go_ret
 exact⟨Tx.rets (by rw[HE.out]),hb1.trans (hb2.mono hb1.size)⟩
theorem info_str:(A3.info? 9).map (fun i=>(i.zero,i.size,i.bytes))=A2 (A2 (.string ⟨#[]⟩),1,16):=by kernel_rfl
theorem Tx.newb (w:A9) (o:Obj):A6 w.heap.size w (w.alloc o):=(Below.refl _ _).alloc (An _) _
theorem Tx.cell_one_at (w:A9) (g:Nat) (hg:g=w.heap.size) (x:Ah) (t:Bd):∀ j u,[x][j]?=A2 u→(w.alloc (.cells #[x] t)).cell? ((⟨g,0,A4⟩:Ao).add j)=A2 u:=by
 subst hg
 exact cell_one_new w x t
def SL (w:A9) (v:Ah) (xs:List ByteArray):Prop :=
 (xs=[]∧∃ a c,v=.slice a 0 c) ∨
 ∃ b o c,v=.slice (A2 ⟨b,o,A4⟩) xs.length c∧xs.length≤c∧c≤maxLen∧b<w.heap.size∧∀ (j:Nat) x,xs[j]?=A2 x→w.cell? ⟨b,o+j,A4⟩=A2 (.string x)
theorem SL.below {w w':A9}{v:Ah}{xs:List ByteArray} (h:SL w v xs) (hb:A6 w.heap.size w w'):SL w' v xs:=by
 rcases h with h | ⟨b,o,c,h1,h2,h5,h3,h4⟩
 ·exact .inl h
 ·exact .inr ⟨b,o,c,h1,h2,h5,B1 h3 hb.size,fun j x hx=>A0 hb (h4 j x hx)⟩
theorem SL.of_own {w:A9}{B e n:Nat}{v:Ah}{xs:List ByteArray}{ys:List Ah} (h:w.ownsRow B e 1 v n ys) (hy:ys=xs.map AW):SL w v xs:=by
 subst hy
 have hn:n=xs.length:=by have:=h.1;simp at this;omega
 subst hn
 rcases h.2 with⟨rfl,h0⟩ | ⟨g,cap,cur,rfl,hb,hg,h1,h2,_⟩
 ·exact .inl ⟨Aw h0,_,_,rfl⟩
 ·exact .inr ⟨g,0,cap,rfl,h1,h2,(AN.1 hg).1,fun j x hx=>by
   have hj:j<xs.length:=(Ai.1 hx).1
   rw[D9,h.cellAt j (by omega),AE,hx]
   rfl⟩
theorem Join_c (v:Ah) (xs:List ByteArray) (sep:ByteArray) (w:A9) (h:SL w v xs) (hlen:(Lib.join (xs.map (·.data.toList)) sep.data.toList).length≤140737488355328) (hN:xs.length≤140737488355328) :
  Ac A3 166 #[v,.string sep] w fun e w'=>e=.returned (.string ⟨(Lib.join (xs.map (·.data.toList)) sep.data.toList).toArray⟩)∧A6 w.heap.size w w':=by
 rcases h with⟨rfl,a,c,rfl⟩ | ⟨b,o,c,rfl,h1,_,h2,h3⟩
 ·exact (Any.strings_Join_none Tryz.lays156 Tryz.Builder_Extra_156 a c sep w).mono fun _ _ ⟨he,hw⟩=>⟨he,hw▸Below.refl _ _⟩
 ·exact Tryz.strings_Join b o c xs sep w h3 h2 hN h1 hlen
theorem Tx.size_mk (l:List UInt8):(⟨l.toArray⟩:ByteArray).size=l.length:=by simp[ByteArray.size]
theorem Tx.step {W wi w1:A9} (h:A6 W.heap.size W wi) (hb:A6 wi.heap.size wi w1):A6 W.heap.size W w1:=h.trans (hb.mono h.size)
theorem Tx.blk {w:A9}{g:Nat}{cs:Array Ah}{t:Bd} (h:w.heap[g]?=A2 (.cells cs t (0,0))):(∀ i,w.cell? ⟨g,i,A4⟩=cs[i]?)∧(∀ i,w.frozen? ⟨g,i,A4⟩=false)∧g<w.heap.size :=
 ⟨fun i=>cell_of_row w g i cs t (0,0) h,fun i=>by simp[World.frozen?,h],(AN.1 h).1⟩
theorem Tx.blk_later {w w':A9}{g:Nat}{o:Obj} (h:w.heap[g]?=A2 o) (hb:A6 w.heap.size w w'):w'.heap[g]?=A2 o:=(hb.block g (AN.1 h).1).trans h
theorem Tx.set4 {B g:Nat}{w wr:A9} (h:A6 B w wr) (hg:B≤g) (v0 v1 v2 v3:Ah) :
  A6 B w ((((wr.setCell ⟨g,0,A4⟩ v0).setCell ⟨g,1,A4⟩ v1).setCell ⟨g,2,A4⟩ v2).setCell ⟨g,3,A4⟩ v3) :=
 (((h.setCell hg _).setCell hg _).setCell hg _).setCell hg _
structure SLA (w:A9) (a:Option Ao) (c:Nat) (xs:List ByteArray):Prop where
 cap:xs.length≤c
 max:c≤maxLen
 at_:∃ b o,(xs≠[]→a=A2 ⟨b,o,A4⟩∧b<w.heap.size)∧∀ (j:Nat) x,xs[j]?=A2 x→w.cell? ⟨b,o+j,A4⟩=A2 (.string x)
theorem SLA.below {w w':A9}{a:Option Ao}{c:Nat}{xs:List ByteArray} (h:SLA w a c xs) (hb:A6 w.heap.size w w'):SLA w' a c xs:=by
 obtain⟨b,o,h1,h2⟩:=h.at_
 exact⟨h.cap,h.max,b,o,fun hn=>⟨(h1 hn).1,B1 (h1 hn).2 hb.size⟩,fun j x hx=>A0 hb (h2 j x hx)⟩
theorem SLA.get {w:A9}{a:Option Ao}{c:Nat}{xs:List ByteArray} (h:SLA w a c xs) {k:Nat}{x:ByteArray} (hk:xs[k]?=A2 x) :
  ∃ b o,a=A2 ⟨b,o,A4⟩∧b<w.heap.size∧w.cell? ⟨b,o+k,A4⟩=A2 (.string x):=by
 obtain⟨b,o,h1,h2⟩:=h.at_
 have hne:xs≠[]:=by intro h0;subst h0;simp at hk
 exact⟨b,o,(h1 hne).1,(h1 hne).2,h2 k x hk⟩
theorem SLA.of_own {w:A9}{B e n:Nat}{v:Ah}{xs:List ByteArray}{ys:List Ah} (h:w.ownsRow B e 1 v n ys) (hy:ys=xs.map AW):∃ a c,v=.slice a xs.length c∧SLA w a c xs:=by
 subst hy
 have hn:n=xs.length:=by have:=h.1;simp at this;omega
 subst hn
 rcases h.2 with⟨rfl,h0⟩ | ⟨g,cap,cur,rfl,hb,hg,h1,h2,_⟩
 ·rw[h0]
  have:=Aw h0
  subst this
  exact⟨A4,0,rfl,by simp,by simp,0,0,fun h=>absurd rfl h,fun j x hx=>by simp at hx⟩
 ·exact⟨_,cap,rfl,h1,h2,g,0,fun _=>⟨rfl,(AN.1 hg).1⟩,fun j x hx=>by
   have hj:j<xs.length:=(Ai.1 hx).1
   rw[D9,h.cellAt j (by omega),AE,hx]
   rfl⟩
theorem SLA.sl {w:A9}{a:Option Ao}{c:Nat}{xs:List ByteArray} (h:SLA w a c xs):SL w (.slice a xs.length c) xs:=by
 by_cases hne:xs=[]
 ·subst hne
  exact .inl ⟨rfl,a,c,rfl⟩
 ·obtain⟨b,o,h1,h2⟩:=h.at_
  obtain⟨rfl,hb⟩:=h1 hne
  exact .inr ⟨b,o,c,rfl,h.cap,h.max,hb,h2⟩
theorem SL.sla {w:A9}{v:Ah}{xs:List ByteArray} (h:SL w v xs):∃ a c,v=.slice a xs.length c∧(xs≠[]→SLA w a c xs):=by
 rcases h with⟨rfl,a,c,rfl⟩ | ⟨b,o,c,rfl,h1,h2,h3,h4⟩
 ·exact⟨a,c,rfl,fun h=>absurd rfl h⟩
 ·exact⟨_,c,rfl,fun _=>⟨h1,h2,b,o,fun _=>⟨rfl,h3⟩,h4⟩⟩
namespace Cs
theorem add_at (b o j:Nat):(⟨b,o,A4⟩:Ao).add j=⟨b,o+j,A4⟩:=by unfold Addr.add;split <;> simp_all
end Cs
namespace Br
theorem cells_new_at (w:A9) (g:Nat) (hg:g=w.heap.size) (cs:Array Ah) (t:Bd):∀ j u,cs.toList[j]?=A2 u→(w.alloc (.cells cs t)).cell? ((⟨g,0,A4⟩:Ao).add j)=A2 u:=by
 subst hg
 intro j u h
 rw[Cs.add_at,D9]
 have hj:j<cs.size:=by have:=(Ai.1 h).1;simpa using this
 simp only[World.cell?,heap_alloc_new]
 simpa using h
theorem flat_at {α:Type} (enc:α→List Ah) (size:Nat) (hs:∀ x,(enc x).length=size):∀ (xs:List α) (k i:Nat) (x:α),xs[k]?=A2 x→i<size→(xs.flatMap enc)[k*size+i]?=(enc x)[i]?
 | [],k,i,x,h,_=>by simp at h
 | y::r,0,i,x,h,hi=>by
  simp at h
  subst h
  rw[Nat.zero_mul,D9,DR,List.getElem?_append_left (by rw[hs];exact hi)]
 | y::r,k+1,i,x,h,hi=>by
  rw[DR,List.getElem?_append_right (by rw[hs,Hv];omega),hs,show (k+1)*size+i - size=k*size+i by rw[Hv];omega]
  exact flat_at enc size hs r k i x (by simpa using h) hi
theorem flat_len {α:Type} (enc:α→List Ah) (size:Nat) (hs:∀ x,(enc x).length=size):∀ xs:List α,(xs.flatMap enc).length=xs.length*size
 | []=>by simp
 | x::r=>by rw[DR,Af,hs,flat_len enc size hs r,AO,Hv];omega
theorem own_any {α:Type}{enc:α→List Ah}{size:Nat} (hs:∀ x,(enc x).length=size) {w:A9}{B e n:Nat}{v:Ah}{xs:List α} (h:w.ownsRow B e size v n (xs.flatMap enc)) (hn:n=xs.length) :
  ∃ a c,v=.slice a xs.length c∧xs.length≤c∧c≤maxLen∧(xs=[]∨∃ g,a=A2 ⟨g,0,A4⟩∧B≤g∧g<w.heap.size∧∀ (k i:Nat) (x:α) (u:Ah),xs[k]?=A2 x→i<size→(enc x)[i]?=A2 u→w.cell? ⟨g,k*size+i,A4⟩=A2 u):=by
 subst hn
 have h0:=h
 rcases h.2 with⟨rfl,h7⟩ | ⟨g,cap,cur,rfl,hb,hg,h1,h2,_⟩
 ·have h8:=Aw h7
  subst h8
  exact⟨A4,0,rfl,An _,by simp,.inl rfl⟩
 ·refine⟨_,cap,rfl,h1,h2,.inr ⟨g,rfl,hb,(AN.1 hg).1,fun k i x u hk hi hu=>?_⟩⟩
  have hkl:k<xs.length:=(Ai.1 hk).1
  rw[h0.cellAt (k*size+i) (B1 (Nat.add_lt_add_left hi _) (by rw[← Hv];exact Nat.mul_le_mul_right _ hkl)),flat_at enc size hs xs k i x hk hi,hu]
end Br
section
variable {P : Program} {w : A9}
theorem run_append_none_any (base:Nat) (t ty e:Bd) (i:TypeInfo) (size:Nat) (ht:P.underlying t=A2 (.slice e)) (hi:P.info? e=A2 i)
  (v:Ah) (n:Nat) (xs:List Ah) (hown:w.ownsRow base e size v n xs) (c:Nat) :
  (NY #[t,t] ty #[v,.slice A4 0 c]).run P w=.ok v w:=by
 rcases hown.2 with⟨rfl,rfl⟩ | ⟨g,cap,cur,rfl,_,_,hnc,_⟩
 ·simp[NY,run_underlying ht,sizeOf,typeInfo,hi,Builtin.lenOf,Builtin.firstCells]
 ·simp[NY,run_underlying ht,sizeOf,typeInfo,hi,Builtin.lenOf,Builtin.firstCells,hnc,storeCells]
theorem wpList_append_sl {ops:Array Oper}{rest:List Oper}{o:Oper}{a:Act}{Q:Exit→Act→A9→Prop} (hgd:o.guard=A4) (s x:Operand) (t:Bd)
  (ho:o.op=.call { callee:=.builtin .append,args:=#[s,x],argTypes:=#[t,t] })
  (base:Nat) (e:Bd) (i:TypeInfo) (z:Ah) (size bytes:Nat) (ht:P.underlying t=A2 (.slice e)) (hi:P.info? e=A2 i) (hz:i.zero=A2 z)
  (hsize:i.size=size) (hby:i.bytes=bytes) (hzs:z.cells.size=size) (hsz:0<size)
  (v:Ah) (n:Nat) (xs:List Ah) (hs:a.eval s=v) (hown:w.ownsRow base e size v n xs)
  (ao:Option Ao) (m c:Nat) (news:List Ah) (hx:a.eval x=.slice ao m c) (hl:news.length=m*size) (hno:ao=A4→m=0) (hnews:∀ ad,ao=A2 ad→∀ j u,news[j]?=A2 u→w.cell? (ad.add j)=A2 u) (h1:∀ u∈news,u.oneCell'=true)
  (h63:n+m≤maxLen) (hbytes:(n+m)*bytes≤140737488355328) (hbase:base≤w.heap.size)
  (h:∀ v' w',w'.ownsRow base e size v' (n+m) (xs++news)→w.grownBy w' v.ownBlock→(v'.ownBlock=v.ownBlock∨v'.ownBlock=A2 w.heap.size)→wpList P ops Q rest (a.put o.dst v') w'):wpList P ops Q (o::rest) a w:=by
 cases ao with
 | none =>
  obtain rfl:=hno rfl
  have hn:news=[]:=Aw (by rw[hl];omega)
  subst hn
  refine wpList_plain hgd fun K hK=>?_
  have hrun:=run_append_none_any (P:=P) (w:=w) base t o.type e i size ht hi v n xs hown c
  unfold Oper.wp
  simp[execOp,ho,resolve,invoke,builtin,hs,hx,hrun,Result.andThen]
  exact hK _ _ (h v w (by simpa using hown) ⟨rfl,rfl,rfl,An _,fun _ _ _=>rfl⟩ (.inl rfl))
 | some ad=>exact wpList_append_own_at w hgd s x t ho base e i z size bytes ht hi hz hsize hby hzs hsz v n xs hs hown ad m c news hx hl (hnews ad rfl) h1 h63 hbytes hbase (fun v' w' h2 h3 _ h5=>h v' w' h2 h3 h5)
end
theorem SLA.none {w:A9}{a:Option Ao}{c:Nat}{xs:List ByteArray} (h:SLA w a c xs):a=A4→xs.length=0:=by
 intro ha
 obtain⟨b,o,h1,_⟩:=h.at_
 cases xs with
 | nil=>rfl
 | cons x r=>have:=(h1 (by simp)).1;rw[ha]at this;cases this
theorem SLA.cells {w:A9}{a:Option Ao}{c:Nat}{xs:List ByteArray} (h:SLA w a c xs):∀ ad,a=A2 ad→∀ j u,(xs.map AW)[j]?=A2 u→w.cell? (ad.add j)=A2 u:=by
 intro ad ha j u hj
 rw[AE,Option.map_eq_some_iff]at hj
 obtain⟨x,hx,rfl⟩:=hj
 obtain⟨b,o,hb,_,hc⟩:=h.get hx
 rw[hb]at ha
 injection ha with ha
 subst ha
 rw[Cs.add_at]
 exact hc
theorem SLA.ones (xs:List ByteArray):∀ u∈xs.map AW,u.oneCell'=true:=fun u hu=>by
 obtain⟨z,_,rfl⟩:=List.mem_map.1 hu
 rfl
theorem Rc.cell_lt {w:A9}{b o:Nat}{v:Ah} (h:w.cell? ⟨b,o,A4⟩=A2 v):b<w.heap.size:=World.block_lt_of_cell? w ⟨b,o,A4⟩ h
section
open Go.Shelf
def renB:Go.Shelf.Ren:=⟨fun
 | 166=>163
 | 167=>182
 | 168=>162 | 169=>164 | 240=>231 | 242=>232 | 276=>282 | 278=>283 | n=>n,
 fun | 0=>0 | 3=>3 | 4=>4 | 5=>5 | 9=>9 | 20=>20 | 21=>21 | 37=>174 | 46=>119 | 51=>195 | 70=>173 | 72=>176 | 75=>178 | 76=>179 | 80=>182 | 164=>260 | n=>n,fun | n=>n⟩
theorem layB166:Go.Proofs.Lays.n166 A3 renB:=by constructor <;> first | kernel_rfl | (intro w;kernel_rfl)
theorem layB167:Go.Proofs.Lays.n167 A3 renB:=by constructor <;> first | kernel_rfl | (intro w;kernel_rfl)
theorem layB168:Go.Proofs.Lays.n168 A3 renB:=by constructor <;> first | kernel_rfl | (intro w;kernel_rfl)
theorem extraB:Builder.Extra A3 renB where
 sizeBuilder:=by kernel_rfl
 liesBuilder:=by kernel_rfl
 t5:=by kernel_rfl
 a5:=fun w=>by kernel_rfl
 z5:=fun w=>by kernel_rfl
 v5:=fun w=>by kernel_rfl
 infoByte:=by kernel_rfl
 cellsByte:=by kernel_rfl
 sizeByte:=by kernel_rfl
 neB5:=by decide
abbrev BIs (B b:Nat) (l:List UInt8) (w:A9):Prop:=Lib.IsBuilderF 176 5 B b (Fv l) w
theorem bc_app (a b:List UInt8):Fv a++Fv b=Fv (a++b):=by unfold Fv;rw[List.map_append]
theorem bc_len (a:List UInt8):(Fv a).length=a.length:=by unfold Fv;rw[At]
theorem WriteString_c (B b:Nat) (l:List UInt8) (s:ByteArray) (w:A9) (h:BIs B b l w) (hlen:l.length+s.size≤140737488355328) (hBw:B≤w.heap.size) :
  Ac A3 163 #[.pointer (A2 ⟨b,0,A4⟩),.string s] w fun e w'=>e=.returned (.tuple #[.int .i64 s.size,.nilIface])∧BIs B b (l++s.data.toList) w'∧A6 B w w'∧Ms 5 (A2 b) w w' :=
 Calls.mono (Any.Builder_WriteString_k layB166 extraB B b (Fv l) s w h (by rw[bc_len];exact hlen) hBw) fun e w' ⟨he,h1,h2,h3⟩=>⟨he,.inr (by rw[← bc_app];exact h1),h2,h3⟩
theorem WriteByte_c (B b:Nat) (l:List UInt8) (c:UInt8) (w:A9) (h:BIs B b l w) (hlen:l.length+1≤140737488355328) (hBw:B≤w.heap.size) :
  Ac A3 182 #[.pointer (A2 ⟨b,0,A4⟩),.int .u8 c.toNat] w fun e w'=>e=.returned .nilIface∧BIs B b (l++[c]) w'∧A6 B w w'∧Ms 5 (A2 b) w w' :=
 Calls.mono (Any.Builder_WriteByte_k layB167 extraB B b (Fv l) c.toNat w h (by rw[bc_len];exact hlen) hBw) fun e w' ⟨he,h1,h2,h3⟩=>⟨he,.inr (by rw[← bc_app];exact h1),h2,h3⟩
theorem WriteRune_c (B b:Nat) (l:List UInt8) (r:Nat) (hr:r≤65535) (w:A9) (h:BIs B b l w) (hlen:l.length+4≤140737488355328) (hBw:B≤w.heap.size) :
  Ac A3 162 #[.pointer (A2 ⟨b,0,A4⟩),.int .i32 r] w fun e w'=>(∃ n,e=.returned (.tuple #[.int .i64 n,.nilIface]))∧BIs B b (l++Lib.encodeRune r) w'∧A6 B w w'∧Ms 5 (A2 b) w w' :=
 Calls.mono (Any.Builder_WriteRune_k layB168 extraB B b (Fv l) r (by omega) (by omega) w h (by rw[bc_len];exact hlen) hBw) fun e w' ⟨he,h1,h2,h3⟩=>⟨⟨_,he⟩,.inr (by rw[← bc_app,Lib.byteCells_encodeRune];exact h1),h2,h3⟩
end
theorem Tx.vint {k:IntKind}{a b:Int} (h:a=b):Value.int k a=Value.int k b:=by rw[h]
theorem Atoi_c (s:ByteArray) (w:A9) (hs:s.size≤281474976710656) (hG:G w) :
  Ac A3 310 #[.string s] w fun e w'=>∃ (v:Int) (err:Ah),e=.returned (.tuple #[.int .i64 v,err])∧A6 w.heap.size w w' ∧
   ((err=.nilIface∧Lib.atoiAll s.data.toList=.ok v)∨(∃ t p,err=.iface t p∧∀ x,Lib.atoiAll s.data.toList=.ok x→False)):=by
 obtain⟨te,pe,he⟩:=hG.es
 obtain⟨tr,pr,hr⟩:=hG.er
 rcases h:Lib.atoiAll s.data.toList with v | _ | _
 ·refine (Tryz.strconv_Atoi_ok s (by omega) v h w).mono fun e w' ⟨h1,h2⟩=>⟨v,.nilIface,h1,?_,.inl ⟨rfl,rfl⟩⟩
  rcases h2 with rfl | ⟨t,rfl⟩
  ·exact Below.refl _ _
  ·exact Lib.bytesWorld_below _ _ _
 ·refine (Any.strconv_Atoi_syntax Tryz.laysC172 s hs h _ w he (.inr ⟨te,pe,rfl⟩)).mono fun e w' ⟨N,h1,_,_,hb⟩=>⟨0,_,h1,hb,.inr ⟨_,_,rfl,fun x hx=>by cases hx⟩⟩
 ·refine (Any.strconv_Atoi_range Tryz.laysC172 s hs h _ w hr (.inr ⟨tr,pr,rfl⟩)).mono fun e w' ⟨N,h1,_,_,hb⟩=>⟨_,_,h1,hb,.inr ⟨_,_,rfl,fun x hx=>by cases hx⟩⟩
theorem Itoa_c (n:Int) (w:A9) (h0:-9223372036854775808≤n) (h1:n≤9223372036854775807) (hG:G w) :
  Ac A3 311 #[.int .i64 n] w fun e w'=>e=.returned (.string ⟨(Lib.itoa n).toArray⟩)∧A6 w.heap.size w w' :=
 (Tryz.strconv_Itoa n h0 h1 w hG.p).mono fun _ _ ⟨he,k,os,hw⟩=>⟨he,hw▸below_grown w k os⟩
theorem Tx.atoi_bound {l:List UInt8}{v:Int} (h:Lib.atoiAll l=.ok v):-9223372036854775808≤v∧v≤9223372036854775807:=by
 unfold Lib.atoiAll at h
 split at h
 ·cases h
 ·simp only at h
  repeat' split at h
  all_goals first | (cases h;done) | (injection h with h;subst h;constructor <;> omega)
theorem text_Valid_c (s:ByteArray) (w:A9) (hs:s.size≤9223372036854775000) (hG:G w) :
  Ac A3 114 #[.string s] w fun e w'=>e=.returned (.bool (Tx.valid s.data.toList))∧A6 w.heap.size w w':=by
 have hT:=hG.u
 have hve:=Tx.valid_two s.data.toList.length s.data.toList (An _)
 cases hvd:Lib.validD s.data.toList with
 | false =>
  rw[hvd]at hve
  have HE:Hid (Tx.valid s.data.toList=false):=J (by rw[← hve];rfl)
  clear hve
  have HD:=J hvd;clear hvd
  go_enter Tryz.func114,Tryz.ntmps114
  go_wp2_with (go_at_call 194;refine (Any.utf8_ValidString Tryz.lays196 s _ (by omega) hT).mono ?_;rintro e w1 ⟨rfl,hb1⟩;rw[HD.out])
  go_ret
  exact⟨Tx.retb (by rw[HE.out]),hb1⟩
 | true =>
  rw[hvd,Bool.true_and]at hve
  have HE:=J hve;clear hve
  have HD:=J hvd;clear hvd
  go_enter Tryz.func114,Tryz.ntmps114
  go_wp2_with (go_at_call 194;refine (Any.utf8_ValidString Tryz.lays196 s _ (by omega) hT).mono ?_;rintro e w1 ⟨rfl,hb1⟩;rw[HD.out])
  go_loopg [4] s.size (fun gf _ wx=>∃ (pos:Nat),pos≤s.size∧s.size≤pos+gf∧wx.heap[w1.heap.size]?=A2 (.stringIter s pos)∧A6 w.heap.size w wx∧Hid (Tx.rangeOk (s.data.toList.drop pos).length (s.data.toList.drop pos)=Tx.valid s.data.toList))
  case atStart=>exact⟨0,Nat.zero_le _,by omega,World.iter_heap w1 s 0,hb1.alloc hb1.size _,J (by rw[List.drop_zero];exact HE.out)⟩
  case round =>
   obtain⟨pos,hps,hfu,hit,hbw,hR⟩:=hrel
   by_cases hlt:pos<s.size
   ·obtain⟨g',rfl⟩:∃ g',gk=g'+1:=⟨gk - 1,by omega⟩
    have hnx:∀ ty,(Instr.next (.pointer (A2 ⟨w1.heap.size,0,A4⟩)) true ty).run A3 wr=_:=fun ty=>Lib.run_next_any_at wr w1.heap.size s pos ty hit hlt
    have hne:s.data.toList.drop pos≠[]:=Tx.drop_ne (by rw[← Ak];exact hlt)
    have hwl:(Lib.decodeL (s.data.toList.drop pos)).2≤s.size - pos:=by
     rw[Lib.decodeL_N]
     have:=Lib.decodeN_le_n' (s.data.toList.drop pos).length ((s.data.toList.drop pos).getD 0 0).toNat ((s.data.toList.drop pos).getD 1 0).toNat ((s.data.toList.drop pos).getD 2 0).toNat ((s.data.toList.drop pos).getD 3 0).toNat (by rw[AG,← Ak];omega)
     rw[AG,← Ak]at this
     rw[AG,← Ak]
     exact this
    have hwd:=Lib.decodeL_width (s.data.toList.drop pos)
    have hru:=Lib.decodeL_rune (s.data.toList.drop pos)
    have hst:=Tx.rangeOk_step hne
    rw[List.drop_drop,hR.out]at hst
    rw[Lib.decodeL_drop]at hwl hwd hru hst
    obtain⟨R,hR1⟩:∃ R,(Utf8.decode s pos).1=R:=⟨_,rfl⟩
    obtain⟨K,hK1⟩:∃ K,(Utf8.decode s pos).2=K:=⟨_,rfl⟩
    rw[hR1,hK1]at hnx
    rw[hR1,hK1]at hst
    rw[hK1]at hwl hwd
    rw[hR1]at hru
    have hit2:=Lib.iterAt_heap wr w1.heap.size s pos (pos+K) hit
    have hbw2:=Lib.below_iterAt hbw (k:=w1.heap.size) hb1.size s (pos+K)
    obtain⟨W,hWd⟩:∃ W,wr.iterAt w1.heap.size s (pos+K)=W:=⟨_,rfl⟩
    rw[hWd]at hnx hit2 hbw2
    have HS:=J hst;clear hst hne hit hbw hR hWd hR1 hK1
    have HI:=J hit2;clear hit2
    by_cases c1:R<32
    ·go_wp2
     go_ret
     exact⟨Tx.retb (by rw[HS.out,if_pos (by omega)]),hbw2⟩
    ·by_cases c2:127≤R∧R≤159
     ·obtain⟨c2,c3⟩:=c2
      go_wp2
      go_ret
      exact⟨Tx.retb (by rw[HS.out,if_pos (by omega)]),hbw2⟩
     ·by_cases c4:65535<R
      ·by_cases c5:127≤R
       ·have c6:159<R:=by omega
        go_wp2
        go_ret
        exact⟨Tx.retb (by rw[HS.out,if_pos (by omega)]),hbw2⟩
       ·omega
      ·by_cases c5:127≤R
       ·have c6:159<R:=by omega
        go_wp2
        go_roundg g'
        case measure=>omega
        case rel=>exact⟨pos+K,by omega,by omega,HI.out,hbw2,J (by rw[HS.out,if_neg (by omega)])⟩
       ·have c6:R<127:=by omega
        go_wp2
        go_roundg g'
        case measure=>omega
        case rel=>exact⟨pos+K,by omega,by omega,HI.out,hbw2,J (by rw[HS.out,if_neg (by omega)])⟩
   ·obtain rfl:pos=s.size:=by omega
    have hnx:∀ ty,(Instr.next (.pointer (A2 ⟨w1.heap.size,0,A4⟩)) true ty).run A3 wr=_:=fun ty=>Lib.run_next_end_at wr w1.heap.size s s.size ty hit hlt
    have hnil:s.data.toList.drop s.size=[]:=List.drop_eq_nil_of_le (by rw[← Ak];omega)
    have HF:Hid (Tx.valid s.data.toList=true):=J (by rw[← hR.out,hnil];rfl)
    clear hR hnil hit
    go_wp2
    go_ret
    exact⟨Tx.retb (by rw[HF.out]),hbw⟩
end Go.Proofs.YtlakomilichhnaaGreatDoor
