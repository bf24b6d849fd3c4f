/- Parts. -/
import Derived.Test.YtlakomilichhnaaGreatDoorCards
import Derived.Test.YtlakomilichhnaaGreatDoorTie
import Derived.ProofKit
import Derived.OpenShut
import Derived.ShutString
import Derived.Lay
import Derived.PinnedBridge
import Derived.Lib.LaidU8T
import Derived.Deep.DeepWitnessRowRef
import Derived.Deep.Fields
import Derived.Test.YtlakomilichhnaaGreatDoorROo
namespace Go.Proofs.YtlakomilichhnaaGreatDoor
set_option maxRecDepth 100000
open Go.RowKit
open DataW renaming trod->Dt,trod_struct->KM,weights->Jy,weightsEach->IP
open Go renaming DataW->Eh,MemPlace->FP,Program->Hq,TypeId->Bo,Value->Ak,World->Ab
open Go.Lib renaming VarReads->Kb,pow10Tab->LW
open Lib.laidMet renaming reads->IN
open List renaming getElem?_map->AP,mem_append_left->Cr,mem_append_right->DZ
open Option renaming none->A0,some->A3
open Option.some renaming inj->GY
open Proofs.Tryz renaming prog->A8,underlying178->Iz,underlying25->Bn,underlying3->B6,underlying9->BA
section
open Go.ChangeShapes Go.WideShapes Go.ChangeAt Go.Deep
section
variable {H : Type} {enc : Bo × Ak -> H} {P : Hq}
theorem post_of_below {f:Func}{s:ChangeSpec}{apart fresh handsOn again:Bool}{W W':Ab}{args:Array Ak}{v:Ak}{ds gs:List (Eh H)}{before pa pv:List FP}
  (hW:DataW.Whole enc P f.params.toList s.vars apart W args.toList ds gs before)
  (hres:∀ (b:Nat) (sp:Nat->Bool) (hd:Bool),DataW.TrodAll enc P W' b sp hd f.resultTypes.toList (v.resultList f.resultTypes.size) (s.fn H (ds++gs)).results [])
  (hargs:∀ sp:Nat->Bool,(∀ p∈before,sp p.block=true)->DataW.TrodAll enc P W' 0 sp true f.params.toList args.toList (s.fn H (ds++gs)).args pa)
  (hvars:∀ sp:Nat->Bool,(∀ p∈before,sp p.block=true)->DataW.TrodVars enc P W' sp s.vars (s.fn H (ds++gs)).vars pv)
  (hps:before=pa++pv) (hb:Below W.heap.size W W')
  (hok:∀ (j:Nat) (t:Bo) (r:Ak),f.resultTypes[j]?=A3 t->(v.resultList f.resultTypes.size)[j]?=A3 r->Value.okWide P W' .any 0 t r) :
  s.post enc P f apart fresh handsOn again W args v W':=by
 have hlt:∀ p∈before,p.block<W.heap.size:=fun p hp=>hW.lt p hp;have hold:∀ p∈before,(fun b=>decide (b<W.heap.size)) p.block=true:=fun p hp=>by simpa using hlt p hp
 refine⟨ds,gs,before,[],pa,pv,hW,hres _ _ _,hargs _ hold,hvars _ hold,World.keptBut_mono (fun p hp=>⟨hp,?_⟩) (hb.frame (·∈before)),fun _=>?_⟩
 ·rw[hps,List.mem_append]at hp;exact Or.inr hp
 ·obtain⟨_,_,_,_,_,hz,hn⟩:=hW;refine⟨hok,_,_,([]++pa)++pv,⟨[]++pa,pv,trodAll_append (hargs _ (fun _ _=>rfl)) (hres _ _ _),hvars _ (fun _ _=>rfl),rfl,?_,?_⟩,?_⟩
  ·intro b off hp;have hin:MemPlace.cell b off∈before:=by rw[hps];simpa using hp
   rw[hb.frozen (hlt _ hin)];exact hz b off hin
  ·intro ha;have:=hn ha;rw[hps]at this;simpa using this
  ·intro p hp _;rw[hps];simpa using hp
theorem int_of_shape {w:Ab}{g:Nat}{t:Bo}{k:IntKind}{zero:Array Ak} (h:w.ShapedOpen P) (hg:g<P.globals.size)
  (h0:((begin P (fun _ _=>0) default).world.heap[g]?).bind Obj.row?=A3 (zero,t)) (hz:zero.size=1)
  (hb:P.buildable t=true) (hc:P.cellTypes P.depth t=A3 [t]) (hu:P.underlying t=A3 (.int k)):∃ m,w.cell? ⟨g,0,A0⟩=A3 (.int k m):=by
 obtain⟨cs,hh,hs,hr⟩:=h.1 g zero t hg h0;obtain⟨ts,hts,_,hall⟩:=hr hb;rw[hc]at hts;cases hts;have h1:0<cs.size:=oQ;obtain⟨u,hu',hok⟩:=hall 0 cs[0] uZ;have:u=t:=by simpa using hu'.symm
 subst this;have hcell:w.cell? ⟨g,0,A0⟩=A3 cs[0]:=by simp[World.cell?,hh,h1]
 rw[hcell];unfold Cell.ok at hok;rw[hu]at hok;cases hv:cs[0] <;> rw[hv]at hok <;> first | (simp at hok;done) | skip
 obtain⟨e,_⟩:_/\_:=hok;subst e;exact⟨_,rfl⟩
theorem iface_of_reads {w:Ab}{nm u:String}{y:Eh Unit}{g:Nat}{t:Bo}{ms:Array (String × Bo)} (h:Kb P w nm (.iface u y)) (hg:P.globalNamed nm=A3 g) (hty:(P.globals[g]?).map (·.type)=A3 t) (hu:P.underlying t=A3 (.interface ms)) :
  ∃ te pe,w.cell? ⟨g,0,A0⟩=A3 (.iface te pe):=by
 obtain⟨g',t',cs,fuel,p,h1,h2,h3,h4⟩:=h;obtain rfl:=GY (hg.symm.trans h1);obtain rfl:=GY (hty.symm.trans h2);rw[World.var?_cell hg h3 0];cases fuel with
 | zero=>simp[Dt]at h4
 | succ fuel =>
  unfold Dt at h4;rw[hu]at h4;split at h4 <;> first | (exfalso;simp at h4;done) | skip
  all_goals (rename_i h5 h6;first | (exfalso;cases h5;done) | exact⟨_,_,by rw[<- Array.getElem?_toList,h6];rfl⟩)
end
theorem u8x:U8Extra A8 Tryz.lays196_ren:=⟨by kernel_rfl,by kernel_rfl,by kernel_rfl,by kernel_rfl,by kernel_rfl,by kernel_rfl,by kernel_rfl⟩
theorem acc_eq:Lib.acceptData=Rows.laid_unicode_utf8_acceptRanges:=by kernel_rfl
theorem pow_eq:Lib.tabData .u64 LW=(Rows.laid_internal_strconv_uint64pow10:Eh Unit):=by kernel_rfl
theorem G_of {W:Ab} (h0:laidMetH A8 Rows.searchPageRow.laid W) (hsh:W.ShapedOpen A8):G W:=by
 have h:laidMet A8 Rows.searchPageRow.laid W:=h0;have hp : Kb A8 W "internal/strconv.uint64pow10" (Lib.tabData .u64 LW) := by rw [pow_eq]; exact IN h (.tail _ (.tail _ (.head _)))
 have ha : Kb A8 W "unicode/utf8.acceptRanges" Lib.acceptData := by rw [acc_eq]; exact IN h (.tail _ (.tail _ (.tail _ (.head _))))
 have hr : Kb A8 W "strconv.ErrRange" Rows.laid_strconv_ErrRange := IN h (.tail _ (.tail _ (.tail _ (.tail _ (.head _)))));have hs : Kb A8 W "strconv.ErrSyntax" Rows.laid_strconv_ErrSyntax := IN h (.tail _ (.tail _ (.tail _ (.tail _ (.tail _ (.head _))))));have hf : Kb A8 W "unicode/utf8.first" Lib.firstData := by rw [<- Pinned.utf8First_eq]; exact IN h (.tail _ (.tail _ (.tail _ (.tail _ (.tail _ (.tail _ (.head _)))))))
 have hp10 : Lib.TabIs A8 W "internal/strconv.uint64pow10" .u64 LW := by
  obtain⟨g,t,cs,fuel,p,hg,hty,hvar,hd⟩:=hp;obtain rfl := GY ((show Tryz.prog.globalNamed "internal/strconv.uint64pow10" = A3 5 by kernel_rfl).symm.trans hg);obtain rfl:=GY ((show (Tryz.prog.globals[5]?).map (·.type)=A3 296 by kernel_rfl).symm.trans hty);unfold Lib.TabIs;rw[hvar,<- Lib.cells_of_tab (show A8.underlying 296=A3 (.array 20 197) by kernel_rfl) (show A8.underlying 197=A3 (.int .u64) by kernel_rfl) oJ oJ hd]
 have hpc := hp10.cell (show Tryz.prog.globalNamed "internal/strconv.uint64pow10" = A3 5 by kernel_rfl) 0 oX
 have hlo:5<W.heap.size:=by
  rcases Nat.lt_or_ge 5 W.heap.size with h1 | h1
  ·exact h1
  ·exfalso;have h2:W.heap[5]?=A0:=Array.getElem?_eq_none h1;simp[World.cell?,h2]at hpc
 exact⟨utf8Tabs_of_readsT (U8Types.of196 Tryz.lays196) u8x hf ha,hp10,
  int_of_shape hsh (g:=0) (t:=3) (zero:=#[.int .i64 0]) (of_decide_eq_true oJ) oJ rfl oJ oJ B6,
  iface_of_reads hs (g:=3) (t:=178) oJ oJ Iz,
  iface_of_reads hr (g:=4) (t:=178) oJ oJ Iz,hlo⟩
section
variable {H : Type} {enc : Bo × Ak -> H} {P : Hq} {W : Ab} {base : Nat} {sp : Nat -> Bool} {hd : Bool}
theorem wf_i64 {n:Int} (h:(Lit.int .i64 n).wf=true):-9223372036854775808<=n/\n<=9223372036854775807:=by
 unfold Lit.wf at h;rw[Bool.and_eq_true,decide_eq_true_iff,decide_eq_true_iff]at h;exact h
theorem one_i64 {fuel:Nat}{t:Bo}{cs:List Ak}{x:Eh H × List FP} (hu:P.underlying t=A3 (.int .i64)) (h:Dt enc P W base sp hd fuel t cs=A3 x):∃ n:Int,cs=[.int .i64 n]/\-9223372036854775808<=n/\n<=9223372036854775807:=by
 obtain⟨n,e,_,hw⟩:=DataW.trod_int hu h;exact⟨n,e,wf_i64 hw⟩
end
section
variable {H : Type} {enc : Bo × Ak -> H} {W : Ab} {base : Nat} {sp : Nat -> Bool} {hd : Bool}
instance:Inhabited Qr.Qy:=⟨.mk 0 0 [] 0 0 []⟩
end
section
variable {H : Type} {enc : Bo × Ak -> H} {P : Hq} {W : Ab} {base : Nat} {sp : Nat -> Bool} {hd : Bool}
theorem one_u8 {fuel:Nat}{t:Bo}{cs:List Ak}{x:Eh H × List FP} (hu:P.underlying t=A3 (.int .u8)) (h:Dt enc P W base sp hd fuel t cs=A3 x):∃ n:UInt8,cs=[.int .u8 n.toNat]:=by
 obtain⟨n,e,_,hw⟩:=DataW.trod_int hu h;unfold Lit.wf at hw;rw[Bool.and_eq_true,decide_eq_true_iff,decide_eq_true_iff]at hw;have h0:(0:Int)<=n:=hw.1;have h1:n<=(255:Int):=hw.2;refine⟨UInt8.ofNat n.toNat,?_⟩;rw[e,UInt8.toNat_ofNat_of_lt' (by show n.toNat<256;omega)];simp[Int.toNat_of_nonneg h0]
def Wt (P:Hq) (t:Bo) (d:Eh H):Prop:=∀ n∈Jy P t d,n<=140737488351232
theorem wt_all {e:Bo}:∀ {xs:List (Eh H)}{d:Eh H},d∈xs->∀ n∈Jy P e d,n∈DataW.weightsAll P e xs
 | x::r,d,h,n,hn=>by
  unfold DataW.weightsAll;rcases List.mem_cons.1 h with rfl | h
  ·exact Cr _ hn
  ·exact DZ _ (wt_all h n hn)
theorem wt_each:∀ {ts:List Bo}{xs:List (Eh H)}{j:Nat}{t:Bo}{d:Eh H},ts[j]?=A3 t->xs[j]?=A3 d->∀ n∈Jy P t d,n∈IP P ts xs
 | [],_,j,t,d,h,_=>by simp at h
 | _::_,[],j,t,d,_,h=>by simp at h
 | t0::ts,x::r,0,t,d,h1,h2=>by
  intro n hn;unfold IP;obtain rfl:t0=t:=by simpa using h1
  obtain rfl:x=d:=by simpa using h2
  exact Cr _ hn
 | t0::ts,x::r,j+1,t,d,h1,h2=>by
  intro n hn;unfold IP;exact DZ _ (wt_each (ts:=ts) (xs:=r) (j:=j) UG (by simpa using h2) n hn)
theorem Wt.elem {t e:Bo} (ht:P.underlying t=A3 (.slice e)) {xs sp:List (Eh H)} (h:Wt P t (.slice xs sp)) {d:Eh H} (hd:d∈xs):Wt P e d:=fun n hn=>h n (by
 simp only[Jy,ht];exact List.mem_cons_of_mem _ (Cr _ (wt_all hd n hn)))
theorem Wt.part {t:Bo}{fs:Array Field} (ht:P.underlying t=A3 (.struct fs)) {xs:List (Eh H)} (h:Wt P t (.agg xs)) {j:Nat}{f:Field}{d:Eh H} (hf:fs[j]?=A3 f) (hd:xs[j]?=A3 d):Wt P f.type d:=fun n hn=>h n (by
 simp only[Jy,ht];exact wt_each (j:=j) (by rw[AP,Array.getElem?_toList,hf];rfl) hd n hn)
theorem Wt.str {t:Bo}{s:List UInt8} (h:Wt P t (.lit (.string s):Eh H)):s.length<=140737488351232:=h _ (by simp[Jy])
theorem Wt.arg {ts:List Bo}{ds:List (Eh H)} (h:(IP P ts ds).all (·<=reachBytes)=true) {j:Nat}{t:Bo}{d:Eh H} (ht:ts[j]?=A3 t) (hd:ds[j]?=A3 d):Wt P t d:=fun n hn=>by
 have:=List.all_eq_true.1 h n (wt_each ht hd n hn);rw[decide_eq_true_eq]at this;unfold reachBytes at this;omega
theorem open_listW {α:Type} [Inhabited α] {t e:Bo}{k:Nat} (ht:P.underlying t=A3 (.slice e)) (hk:P.cellsOf e=k) (h0:0<k) (R:α->List Ak->Prop)
  (hR:∀ n cs (x:Eh H × List FP),Wt P e x.1->Dt enc P W base sp hd n e cs=A3 x->∃ it,R it cs) {fuel:Nat}{v:Ak}{x:Eh H × List FP} (hw:Wt P t x.1) (h:Dt enc P W base sp hd fuel t [v]=A3 x) :
  ∃ (xs:List α) (a:Option Addr) (c:Nat),v=.slice a xs.length c/\xs.length<=c/\c<=maxLen/\∃ b o,(xs≠[]->a=A3 ⟨b,o,A0⟩/\b<W.heap.size)/\∀ (j:Nat) x,xs[j]?=A3 x->∃ cs,R x cs/\∀ i,i<k->W.cell? ⟨b,o+j*k+i,A0⟩=cs[i]?:=by
 rcases open_slice ht h with⟨e,_⟩ | ⟨a',len,cap,m,n,D,Pl,e,hb,hl,hm,hmm,hxe,hel⟩
 ·simp at e;subst e;exact⟨[],A0,0,rfl,Nat.le_refl _,by unfold maxLen;omega,0,0,fun h=>absurd rfl h,fun j x hx=>by simp at hx⟩
 ·simp at e;subst e;have hlm:len<=m:=by rw[hmm];split <;> omega
  have ht0:=ht
  have hit:∀ i,i<len->∃ it:α,(a'.block<W.heap.size/\∃ cs,R it cs/\∀ j,j<k->W.cell? ((a'.add (i*k)).add j)=cs[j]?):=fun i hi=>by
   obtain⟨cs',hc,ht⟩:=hel i oQ;obtain⟨it,hr⟩:=hR _ _ _ (by rw[hxe]at hw;exact Wt.elem ht0 hw (List.mem_map.2 ⟨i,List.mem_range.2 hi,rfl⟩)) ht;rw[hk]at hc;have hlt:=World.cells?_block hc h0;have hblk:(a'.add (i*k)).block=a'.block:=by unfold Addr.add;split <;> rfl
   rw[hblk]at hlt;exact⟨it,hlt,cs',hr,(World.cells?_some hc).2.2⟩
  have hat:∀ i,i<len->∃ (it:α) (u:Ak),W.cell? ((a'.add (i*k)).add 0)=A3 u:=fun i hi=>by
   obtain⟨cs',hc,ht⟩:=hel i oQ;rw[hk]at hc;obtain⟨_,hcl,hat⟩:=World.cells?_some hc;have h1:0<cs'.length:=oQ;exact⟨default,cs'[0]'h1,by rw[hat 0 h0];exact List.getElem?_eq_getElem h1⟩
  obtain⟨f,hf2⟩:=choose_lt hit
  have hget:∀ (j:Nat) x,((List.range len).map f)[j]?=A3 x->j<len/\x=f j:=fun j x hx=>by
   rw[AP]at hx;obtain⟨y,hy,rfl⟩:=Option.map_eq_some_iff.1 hx;have h1:j<len:=by have:=(List.getElem?_eq_some_iff.1 hy).1;simpa using this
   rw[List.getElem?_range h1]at hy;injection hy with hy;exact⟨h1,by rw[hy]⟩
  obtain⟨b,o,spot⟩:=a'
  have hspot:0<len->spot=A0:=fun h9=>by
   obtain⟨_,u,hu⟩:=hat 0 h9;simpa [Addr.add] using World.cell?_spot hu
  refine⟨(List.range len).map f,A3 ⟨b,o,spot⟩,cap,oZ,by simpa using hl,hm,b,o,fun hne=>?_,fun j x hx=>?_⟩
  ·have h9:0<len:=by
    rcases Nat.eq_zero_or_pos len with h | h
    ·subst h;simp at hne
    ·exact h
   exact⟨by rw[hspot h9],(hf2 0 h9).1⟩
  ·obtain⟨hj,rfl⟩:=hget j x hx;obtain⟨cs,hr,g⟩:=(hf2 j hj).2;obtain rfl:=hspot oQ;simp only[add_plain]at g;exact⟨cs,hr,g⟩
end
section
variable {H : Type} {enc : Bo × Ak -> H} {W : Ab} {base : Nat} {sp : Nat -> Bool} {hd : Bool}
theorem open_sub {fuel:Nat}{cs:List Ak}{x:Eh H × List FP} (hw:Wt A8 96 x.1) (h:Dt enc A8 W base sp hd fuel 96 cs=A3 x):∃ s:UInt8 × ByteArray,cs=[.int .u8 s.1.toNat,.string s.2]/\s.2.size<=140737488351232:=by
 obtain⟨xs,n,_,rfl,hl,hxl,hg⟩:=KM Tryz.underlying96 h;have hl2:cs.length=2:=hl.trans oJ
 match cs,hl2 with
 | [c0,c1],_ =>
  match xs,hxl with
  | [x0,x1],_ =>
   have k5:A8.cellsOf 5=1:=by kernel_rfl
   have k9:=zjk;obtain⟨n0,e0⟩:=one_u8 Tryz.underlying5 (show Dt enc A8 W base sp hd n 5 [c0]=A3 x0 from by simpa [k5] using hg 0 _ rfl);obtain⟨n1,e1,d1,_⟩:=zbk;injection e0 with e0;injection e1 with e1;subst d1;have hs:=Wt.str (Wt.part (j:=1) Tryz.underlying96 hw rfl rfl);exact⟨(n0,n1),by rw[e0,e1],by rw[Lib.size_eq];exact hs⟩
theorem open_subs {fuel:Nat}{v:Ak}{x:Eh H × List FP} (hw:Wt A8 82 x.1) (h:Dt enc A8 W base sp hd fuel 82 [v]=A3 x):∃ (xs:List (UInt8 × ByteArray)) (a:Option Addr) (c:Nat),v=.slice a xs.length c/\Rc.SubA W a c xs/\∀ s∈xs,s.2.size<=140737488351232:=by
 obtain⟨xs,a,c,e,h1,h2,b,o,h3,h4⟩:=open_listW Tryz.underlying82 (show A8.cellsOf 96=2 by kernel_rfl) oQ (fun (s:UInt8 × ByteArray) cs=>cs=[.int .u8 s.1.toNat,.string s.2]/\s.2.size<=140737488351232) (fun n cs x hw hx=>open_sub hw hx) hw h;refine⟨xs,a,c,e,⟨h1,h2,b,o,h3,fun j x hx=>?_⟩,fun x hx=>?_⟩
 ·obtain⟨cs,⟨rfl,_⟩,g⟩:=h4 j x hx;exact⟨g 0 oQ,g 1 oQ⟩
 ·obtain⟨j,hj⟩:=zpj;obtain⟨cs,⟨_,hs⟩,_⟩:=h4 j x hj;exact hs
def FlC (W:Ab) (f:Rc.Fl) (cs:List Ak):Prop:=∃ sa sc,cs=[.string f.tag,.string f.ind,.slice sa f.subs.length sc,.int .i64 f.auth]/\Rc.SubA W sa sc f.subs/\(∀ s∈f.subs,s.2.size<=140737488351232)/\(-9223372036854775808<=f.auth/\f.auth<=9223372036854775807)
theorem open_field {fuel:Nat}{cs:List Ak}{x:Eh H × List FP} (hw:Wt A8 84 x.1) (h:Dt enc A8 W base sp hd fuel 84 cs=A3 x):∃ f:Rc.Fl,FlC W f cs:=by
 obtain⟨xs,n,_,rfl,hl,hxl,hg⟩:=KM Tryz.underlying84 h;have hl4:cs.length=4:=hl.trans oJ
 match cs,hl4 with
 | [c0,c1,c2,c3],_ =>
  match xs,hxl with
  | [x0,x1,x2,x3],_ =>
   have k3:=znk;have k9:=zjk;have k40:A8.cellsOf 82=1:=by kernel_rfl
   obtain⟨n0,e0,_,_⟩:=DataW.trod_string BA (show Dt enc A8 W base sp hd n 9 [c0]=A3 x0 from by simpa [k9] using hg 0 _ rfl);obtain⟨n1,e1,_,_⟩:=zbk;obtain⟨xs2,sa,sc,e2,hs,hz⟩:=open_subs (Wt.part (j:=2) Tryz.underlying84 hw rfl rfl) (show Dt enc A8 W base sp hd n 82 [c2]=A3 x2 from by simpa [k40] using hg 2 _ rfl);obtain⟨n3,e3,l3,u3⟩:=one_i64 B6 (show Dt enc A8 W base sp hd n 3 [c3]=A3 x3 from by simpa [k3] using hg 3 _ rfl);injection e0 with e0;injection e1 with e1;injection e3 with e3;exact⟨⟨n0,n1,xs2,n3⟩,sa,sc,by rw[e0,e1,e2,e3],hs,hz,l3,u3⟩
instance:Inhabited Rc.Fl:=⟨⟨⟨#[]⟩,⟨#[]⟩,[],0⟩⟩
theorem open_fields {fuel:Nat}{v:Ak}{x:Eh H × List FP} (hw:Wt A8 49 x.1) (h:Dt enc A8 W base sp hd fuel 49 [v]=A3 x):∃ (fs:List Rc.Fl) (a:Option Addr) (c:Nat),v=.slice a fs.length c/\Rc.FldA W a c fs/\∀ f∈fs,∀ s∈f.subs,s.2.size<=140737488351232:=by
 obtain⟨xs,a,c,e,h1,h2,b,o,h3,h4⟩:=open_listW Tryz.underlying49 (show A8.cellsOf 84=4 by kernel_rfl) oQ (FlC W) (fun n cs x hw hx=>open_field hw hx) hw h;refine⟨xs,a,c,e,⟨h1,h2,b,o,h3,fun j x hx=>?_⟩,fun x hx=>?_⟩
 ·obtain⟨cs,⟨sa,sc,rfl,hs,_⟩,g⟩:=h4 j x hx;exact⟨g 0 oQ,g 1 oQ,⟨sa,sc,g 2 oQ,hs⟩,g 3 oQ⟩
 ·obtain⟨j,hj⟩:=zpj;obtain⟨cs,⟨_,_,_,_,hz,_⟩,_⟩:=h4 j x hj;exact hz
def RdC (W:Ab) (r:Rc.Rd) (cs:List Ak):Prop:=∃ a c,cs=[.int .i64 r.id,.int .i64 r.ver,.int .i64 r.kind,.string r.lang,.slice a r.fields.length c]/\Rc.FldA W a c r.fields/\(∀ f∈r.fields,∀ s∈f.subs,s.2.size<=140737488351232)/\(-9223372036854775808<=r.id/\r.id<=9223372036854775807)
theorem open_rec {fuel:Nat}{cs:List Ak}{x:Eh H × List FP} (hw:Wt A8 51 x.1) (h:Dt enc A8 W base sp hd fuel 51 cs=A3 x):∃ r:Rc.Rd,RdC W r cs:=by
 obtain⟨xs,n,_,rfl,hl,hxl,hg⟩:=KM Tryz.underlying51 h;have hl5:cs.length=5:=hl.trans oJ
 match cs,hl5 with
 | [c0,c1,c2,c3,c4],_ =>
  match xs,hxl with
  | [x0,x1,x2,x3,x4],_ =>
   have k3:=znk;have k9:=zjk;have k22:A8.cellsOf 49=1:=by kernel_rfl
   obtain⟨n0,e0,l0,u0⟩:=zdt;obtain⟨n1,e1,_,_⟩:=one_i64 B6 (show Dt enc A8 W base sp hd n 3 [c1]=A3 x1 from by simpa [k3] using hg 1 _ rfl);obtain⟨n2,e2,_,_⟩:=one_i64 B6 (show Dt enc A8 W base sp hd n 3 [c2]=A3 x2 from by simpa [k3] using hg 2 _ rfl);obtain⟨n3,e3,_,_⟩:=DataW.trod_string BA (show Dt enc A8 W base sp hd n 9 [c3]=A3 x3 from by simpa [k9] using hg 3 _ rfl);obtain⟨fs,a,c,e4,hs,hz⟩:=open_fields (Wt.part (j:=4) Tryz.underlying51 hw rfl rfl) (show Dt enc A8 W base sp hd n 49 [c4]=A3 x4 from by simpa [k22] using hg 4 _ rfl);injection e0 with e0;injection e1 with e1;injection e2 with e2;injection e3 with e3;exact⟨⟨n0,n1,n2,n3,fs⟩,a,c,by rw[e0,e1,e2,e3,e4],hs,hz,l0,u0⟩
instance:Inhabited Rc.Rd:=⟨⟨0,0,0,⟨#[]⟩,[]⟩⟩
theorem open_records {r:Reach}{b0:Nat}{v:Ak}{d:Eh H}{ps:List FP} (hw:Wt A8 25 d) (hv:Value.okWide A8 W r b0 25 v) (h:DataW.Trod enc A8 W base sp hd 25 v d ps):∃ (rs:List Rc.Rd) (a:Option Addr) (c:Nat),v=.slice a rs.length c/\Rc.RdA W a c rs/\∀ r∈rs,(∀ f∈r.fields,∀ s∈f.subs,s.2.size<=140737488351232)/\(-9223372036854775808<=r.id/\r.id<=9223372036854775807):=by
 obtain⟨fuel,hf⟩:=h;obtain⟨a0,len,cap,rfl⟩:=okWide_slice Bn hv;obtain⟨xs,a,c,e,h1,h2,b,o,h3,h4⟩:=open_listW Bn (show A8.cellsOf 51=5 by kernel_rfl) oQ (RdC W) (fun n cs x hw hx=>open_rec hw hx) (x:=(d,ps)) hw (show Dt enc A8 W base sp hd fuel 25 [.slice a0 len cap]=A3 (d,ps) from by simpa [Value.cells] using hf);refine⟨xs,a,c,e,⟨h1,h2,b,o,h3,fun j x hx=>?_⟩,fun x hx=>?_⟩
 ·obtain⟨cs,⟨fa,fc,rfl,hs,_⟩,g⟩:=h4 j x hx;exact⟨g 0 oQ,g 1 oQ,g 2 oQ,g 3 oQ,⟨fa,fc,g 4 oQ,hs⟩⟩
 ·obtain⟨j,hj⟩:=zpj;obtain⟨cs,⟨_,_,_,_,hz,hb⟩,_⟩:=h4 j x hj;exact⟨hz,hb⟩
theorem open_way {r:Reach}{b0:Nat}{v:Ak}{d:Eh H}{ps:List FP} (hv:Value.okWide A8 W r b0 39 v) (h:DataW.Trod enc A8 W base sp hd 39 v d ps) :
  ∃ (n:Int) (s:ByteArray),v=.agg #[.int .i64 n,.string s]:=by
 obtain⟨fuel,hf⟩:=h;obtain⟨cs,rfl,_⟩:=okWide_struct Tryz.underlying39 hv;obtain⟨xs,n,_,hx,hl,hxl,hg⟩:=KM Tryz.underlying39 hf;have hl2:(Value.agg cs).cells.toList.length=2:=hl.trans oJ;simp only[Value.cells]at hl2 hg
 obtain⟨c0,c1,hc0⟩:∃ c0 c1,cs.toList=[c0,c1]:=by
  match h9:cs.toList,hl2 with
  | [c0,c1],_=>exact⟨c0,c1,rfl⟩
 match xs,hxl with
 | [x0,x1],_ =>
  have k3:=znk;have k9:=zjk;rw[hc0]at hg;injection hx with hx _;subst hx;obtain⟨n0,e0,_,_⟩:=zdt;obtain⟨s1,e1,_,_⟩:=zbk;injection e0 with e0;injection e1 with e1;exact⟨n0,s1,by rw[<- Array.toArray_toList (xs:=cs),hc0,e0,e1]⟩
end
end
end Go.Proofs.YtlakomilichhnaaGreatDoor
