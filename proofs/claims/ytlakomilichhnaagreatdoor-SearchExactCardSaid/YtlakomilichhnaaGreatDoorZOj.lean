/- Texts of this seat's, what the claim needs of them. -/
import Derived.Test.YtlakomilichhnaaGreatDoorZOf
namespace Go.Proofs.YtlakomilichhnaaGreatDoor
set_option maxHeartbeats 1600000
set_option maxRecDepth 100000
open Go.RowKit
open Bool renaming and_eq_true→Bz
open Go renaming Addr→Ao,Value→Ah,World→A9
open IntKind renaming i64→AU
open Lib renaming hid→J
open List renaming any_eq_true→BM,contains_iff_mem→ED,filter_append→Dc,filter_cons_of_neg→GF,filter_cons_of_pos→GE,flatMap_append→BB,getElem?_eq_getElem→A7,getElem?_eq_none→Ez,getElem_of_mem→Ig,length_append→Af,length_cons→AO,length_filter_le→Bo,length_map→At,map_append→AS,mem_filter→B8,mem_of_getLast?→L5,nil_append→D0
open Nat renaming le_refl→An,le_trans→AK,lt_or_ge→Cv,zero_le→Ae
open Option renaming none→A4,some→A2
namespace Rc
end Rc
namespace Ix
open Rc
def numL (L:List ByteArray):List By:=(L.map fun s=>plainB s.data.toList).filter fun x=>!(x == [])
def nums (fs:List Fl):List By:=(fs.filter numB).flatMap numF
theorem numL_le (L:List ByteArray):(numL L).length≤L.length:=by
 unfold numL
 exact AK (Bo _ _) (by rw[At];exact An _)
theorem numF_le (f:Fl):(numF f).length≤f.subs.length:=by
 unfold numF
 refine AK (Bo _ _) ?_
 rw[At]
 unfold allV
 rw[At]
 exact Bo _ _
theorem nums_le:∀ {fs:List Fl},(∀ f∈fs,f.subs.length≤1000)→(nums fs).length≤1000*fs.length
 | [],_=>Ae _
 | f::fs,h=>by
  have ih:=nums_le (fs:=fs) (fun g hg=>h g (List.mem_cons_of_mem _ hg))
  have h1:=h f (List.mem_cons_self ..)
  have h2:=numF_le f
  unfold nums at ih ⊢
  by_cases hp:numB f=true
  ·rw[GE hp,List.flatMap_cons,Af,AO]
   omega
  ·rw[GF hp,AO]
   omega
theorem nums_take {fs:List Fl}{k:Nat}{f:Fl} (h:fs[k]?=A2 f):nums (fs.take (k+1))=nums (fs.take k)++(if numB f=true then numF f else []):=by
 have hlt:=(List.getElem?_eq_some_iff.1 h).1
 unfold nums
 rw[List.take_succ_eq_append_getElem hlt,Dc,BB]
 rw[A7 hlt]at h
 injection h with h
 rw[h]
 congr 1
 by_cases hp:numB f=true
 ·rw[if_pos hp,GE hp];simp
 ·rw[if_neg hp,GF hp];rfl
open Rc
def termsTo (fs:List Fl) (k:Nat):List By:=(List.range k).flatMap fun i=>term fs (i+1)
theorem termsTo_succ (fs:List Fl) (k:Nat):termsTo fs (k+1)=termsTo fs k++term fs (k+1):=by
 unfold termsTo
 rw[List.range_succ,BB]
 simp
theorem terms_zero (fs:List Fl):terms fs 0=termsTo fs 4++pick (begB 53) [97] fs:=by
 rw[termsTo_succ,termsTo_succ,termsTo_succ,termsTo_succ,show termsTo fs 0=[] from rfl,D0]
 rfl
theorem term_len {fs:List Fl} (h:Mod fs):∀ k,(term fs k).length≤2000000
 | 0=>Ae _
 | 1=>by
  have h1:=pick_len (p:=tagIs [50,52,53]) (codes:=[97,98,110,112]) h
  have h2:=pick_len (p:=tagIs [50,52,54]) (codes:=[97,98]) h
  show (_++_:List By).length≤_
  rw[Af]
  omega
 | 2=>AK (pick_len h) (by decide)
 | 3=>AK (pick_len h) (by decide)
 | 4=>by
  have h1:=nums_le (fs:=fs) h.subs
  have h2:=h.len
  show (nums fs).length≤_
  omega
 | _+5=>Ae _
theorem termsTo_len {fs:List Fl} (h:Mod fs):∀ k,(termsTo fs k).length≤k*2000000
 | 0=>An _
 | k+1=>by
  have h1:=termsTo_len h k
  have h2:=term_len h (k+1)
  rw[termsTo_succ,Af,Nat.succ_mul]
  omega
theorem terms_len {fs:List Fl} (h:Mod fs) (f:Int):(terms fs f).length≤10000000:=by
 by_cases h0:f=0
 ·have h1:=termsTo_len h 4
  have h2:=pick_len (p:=begB 53) (codes:=[97]) h
  rw[h0,terms_zero,Af]
  omega
 ·unfold terms
  rw[if_neg h0]
  split
  ·exact AK (term_len h _) (by decide)
  ·exact Ae _
end Ix
namespace Br
variable {α : Type} {enc : α → List Ah} {size : Nat}
theorem FA.agree {w w':A9}{a:Option Ao}{c:Nat}{xs:List α} (h:FA enc size w a c xs) (hs:w.heap.size≤w'.heap.size) (hg:xs≠[]→∀ g,a=A2 g→w'.heap[g.block]?=w.heap[g.block]?):FA enc size w' a c xs:=by
 obtain⟨b,o,h1,h2⟩:=h.at_
 refine⟨h.cap,h.max,b,o,fun hn=>⟨(h1 hn).1,Nat.lt_of_lt_of_le (h1 hn).2 hs⟩,fun j i x u hx hu=>?_⟩
 have hne:xs≠[]:=by intro e;subst e;simp at hx
 have hb:=hg hne ⟨b,o,A4⟩ (h1 hne).1
 exact (World.cell?_of_block (a:=⟨b,o+j*size+i,A4⟩) hb).trans (h2 j i x u hx hu)
theorem FA.lt {w:A9}{a:Option Ao}{c:Nat}{xs:List α} (h:FA enc size w a c xs) (hne:xs≠[]):∀ g,a=A2 g→g.block<w.heap.size:=by
 obtain⟨b,o,h1,h2⟩:=h.at_
 intro g hg
 rw[(h1 hne).1]at hg
 injection hg with hg
 rw[← hg]
 exact (h1 hne).2
theorem size_set (w:A9) (a:Ao) (v:Ah):(w.setCell a v).heap.size=w.heap.size:=by simp[World.setCell]
theorem FA.set {w:A9}{a:Option Ao}{c:Nat}{xs:List α} (h:FA enc size w a c xs) {X:Nat} (hX:xs≠[]→∀ g,a=A2 g→g.block≠X) (i:Nat) (v:Ah):FA enc size (w.setCell ⟨X,i,A4⟩ v) a c xs :=
 h.agree (by rw[size_set];exact An _) (fun hn g hg=>Below.heap_setCell w ⟨X,i,A4⟩ v g.block (hX hn g hg))
end Br
theorem SLA.row {w:A9}{a:Option Ao}{c:Nat}{xs:List ByteArray} (h:SLA w a c xs) (hne:xs≠[]):∃ b o,a=A2 ⟨b,o,A4⟩∧b<w.heap.size∧∀ (j:Nat) x,xs[j]?=A2 x→w.cell? ⟨b,o+j,A4⟩=A2 (.string x):=by
 obtain⟨b,o,h1,h2⟩:=h.at_
 exact⟨b,o,(h1 hne).1,(h1 hne).2,h2⟩
theorem hp_alloc_lt {w:A9}{k:Nat} (hk:k<w.heap.size) (o:Obj):(w.alloc o).heap[k]?=w.heap[k]?:=Below.heap_alloc w o k hk
namespace Ix
open Rc
def postsTo (r:Rd):Nat→List Post
 | 0=>[]
 | k+1=>postsTo r k++fposts k r.id (terms r.fields k)
theorem posts_to (r:Rd):postsTo r 5=posts r:=by
 unfold posts
 simp only[postsTo,D0,List.append_assoc]
 rfl
def Far (T:List PT) (a:Option Ao) (Y:Nat):Prop:=(T≠[]→∀ g,a=A2 g→g.block≠Y)∧∀ t∈T,t.1.at_≠[]→∀ g,t.2.1=A2 g→g.block≠Y
theorem PsA.set {w:A9}{a:Option Ao}{c:Nat}{T:List PT} (h:PsA w a c T) {X:Nat} (hX:Far T a X) (i:Nat) (v:Ah):PsA (w.setCell ⟨X,i,A4⟩ v) a c T :=
 ⟨h.fa.set hX.1 i v,fun t ht=>(h.ats t ht).set (hX.2 t ht) i v⟩
open Rc
abbrev OwnI (w':A9) (B:Nat) (v:Ah) (l:List Int):Prop:=w'.ownsRow B 3 1 v l.length (l.map (Value.int .i64))
theorem ownI_snoc {w:A9}{B:Nat}{v:Ah}{l:List Int}{n:Int} (h:w.ownsRow B 3 1 v (l.length+1) (l.map (Value.int .i64)++[.int .i64 n])):OwnI w B v (l++[n]):=by
 unfold OwnI
 rw[Af,AS]
 exact h
def idsT (p:Post→Bool) (T:List PT):List Int:=(T.filter fun t=>p t.1).map fun t=>t.1.id
theorem idsT_map (p:Post→Bool) (T:List PT):((T.map (·.1)).filter p).map (·.id)=idsT p T:=by
 unfold idsT
 rw[List.filter_map,List.map_map]
 rfl
theorem idsT_take {p:Post→Bool}{T:List PT}{k:Nat}{t:PT} (h:T[k]?=A2 t):idsT p (T.take (k+1))=idsT p (T.take k)++(if p t.1=true then [t.1.id] else []):=by
 unfold idsT
 rw[take_snoc h,Dc,AS]
 congr 1
 by_cases hp:p t.1=true <;> simp[hp]
theorem idsT_len (p:Post→Bool) (T:List PT):(idsT p T).length≤T.length:=by
 unfold idsT
 rw[At]
 exact Bo _ _
def wordP (f:Int) (s:By) (p:Post):Bool:=decide (p.fld=f)&&(p.word == s)
def prefP (f:Int) (s:By) (p:Post):Bool:=!(s == [])&&(decide (p.fld=f)&&begP s p.word)
theorem word_T (T:List PT) (f:Int) (s:By):word (T.map (·.1)) f s=Cp.puts Cp.ltI (idsT (wordP f s) T):=by
 unfold word
 rw[← idsT_map]
 rfl
theorem prefix_T (T:List PT) (f:Int) (s:By):prefix_ (T.map (·.1)) f s=Cp.puts Cp.ltI (idsT (prefP f s) T):=by
 unfold prefix_
 rw[← idsT_map]
 rfl
open Rc
def atP (f:Int) (s:By) (id start:Int) (far:Nat) (p:Post):Bool:=decide (p.fld=f)&&(p.word == s)&&(p.id == id)&&p.at_.any fun n=>decide (AU.wrap (n - far)=start)
theorem at_T (T:List PT) (f:Int) (s:By) (id start:Int) (far:Nat):at_ (T.map (·.1)) f s id start far=T.any fun t=>atP f s id start far t.1:=by
 unfold at_
 rw[List.any_map]
 rfl
theorem folF_cons (x:List Post) (f id start:Int) (j:Nat) (s:By) (l:List By):folF x f id start j (s::l)=(at_ x f s id start j&&folF x f id start (j+1) l):=rfl
end Ix
namespace Al
theorem eq_from {α:Type}{xs ys:List α} (hl:xs.length=ys.length) (h:∀ j,j<xs.length→xs[j]?=ys[j]?):xs=ys:=by
 apply List.ext_getElem?
 intro j
 rcases Cv j xs.length with h1 | h1
 ·exact h j h1
 ·rw[Ez h1,Ez (by omega)]
end Al
theorem Ints_c (xs ys:List Int) (a b:Option Ao) (c d:Nat) (w:A9) (hx:Ix.IA w a c xs) (hy:Ix.IA w b d ys) :
  Calls Tryz.prog 14 #[.slice a xs.length c,.slice b ys.length d] w fun e w'=>e=.returned (.bool (decide (xs=ys)))∧Below w.heap.size w w':=by
 have hcx:=hx.cap
 have hmx:=hx.max
 have hcy:=hy.cap
 have hmy:=hy.max
 have hml:maxLen=9223372036854775807:=rfl
 by_cases hl:xs.length=ys.length
 ·have HL:=J hl
  have hli:((xs.length:Int) != (ys.length:Int))=false:=by simp[hl]
  clear hl
  go_enter Tryz.func14,Tryz.ntmps14
  go_wp2
  go_loopw [5] (fun i wr=>∃ (k:Nat),k≤xs.length∧i=.int .i64 k∧Hid (∀ j,j<k→xs[j]?=ys[j]?)∧Below w.heap.size w wr) (fun i _=>xs.length - (intOf i).toNat)
  case atStart=>exact⟨0,Ae _,rfl,J (fun j hj=>absurd hj (by omega)),Below.refl _ _⟩
  case round =>
   obtain⟨k,hk,rfl,hE,hb⟩:=hrel
   by_cases hlt:k<xs.length
   ·obtain⟨x,hxk⟩:∃ x,xs[k]?=A2 x:=⟨_,A7 hlt⟩
    have hlt2:k<ys.length:=by rw[← HL.out];exact hlt
    obtain⟨y,hyk⟩:∃ y,ys[k]?=A2 y:=⟨_,A7 hlt2⟩
    obtain⟨bx,ox,rfl,hbx,cx⟩:=Ix.IA.cell hx hxk
    obtain⟨b1,o1,rfl,hb1,cy⟩:=Ix.IA.cell hy hyk
    replace cx:=cell_later hb cx
    replace cy:=cell_later hb cy
    have hq:(x != y)=!decide (x=y):=by by_cases h:x=y <;> simp[h]
    have g1:(k:Int)<(xs.length:Int):=by omega
    have g2:(k:Int)<(ys.length:Int):=by omega
    by_cases hxy:x=y
    ·have hE2:Hid (∀ j,j<k+1→xs[j]?=ys[j]?):=J (fun j hj=>by
      rcases Cv j k with h1 | h1
      ·exact hE.out j h1
      ·obtain rfl:j=k:=by omega
       rw[hxk,hyk,hxy])
     rw[decide_eq_true hxy,Bool.not_true]at hq
     clear hxy hxk hyk
     go_wp2
     go_quiet (fail)
     go_wp2
     go_roundw
     case rel=>exact⟨k+1,by omega,by go_num,hE2,Tx.below_drewN hb _⟩
     case measure=>simp[intOf];omega
    ·have hne:Hid (xs≠ys):=J (fun e=>hxy (by rw[e,hyk]at hxk;injection hxk with h9;exact h9.symm))
     rw[decide_eq_false hxy,Bool.not_false]at hq
     clear hxy hxk hyk
     go_wp2
     go_quiet (fail)
     go_wp2
     go_ret
     exact⟨Tx.retb (decide_eq_false hne.out).symm,Tx.below_drewN hb _⟩
   ·obtain rfl:k=xs.length:=by omega
    have he:Hid (xs=ys):=J (Al.eq_from HL.out hE.out)
    go_wp2
    go_ret
    exact⟨Tx.retb (decide_eq_true he.out).symm,hb⟩
 ·have hne:Hid (xs≠ys):=J (fun e=>hl (by rw[e]))
  have hli:((xs.length:Int) != (ys.length:Int))=true:=by simp;omega
  clear hl
  go_enter Tryz.func14,Tryz.ntmps14
  go_wp2
  go_ret
  exact⟨Tx.retb (decide_eq_false hne.out).symm,Below.refl _ _⟩
namespace Ix
open Rc
def hitP (f id:Int) (s:By) (t:PT):Bool:=decide (t.1.fld=f)&&(t.1.id == id)&&(t.1.word == s)
theorem hitP_iff {f id:Int}{s:By}{t:PT}:hitP f id s t=true↔t.1.fld=f∧t.1.id=id∧t.1.word=s:=by
 unfold hitP
 simp[and_assoc]
def lk (T:List PT) (f id:Int) (s:By):Option PT:=(T.filter (hitP f id s)).getLast?
theorem lk_take {T:List PT}{k:Nat}{t:PT} (f id:Int) (s:By) (h:T[k]?=A2 t):lk (T.take (k+1)) f id s=if hitP f id s t=true then A2 t else lk (T.take k) f id s:=by
 unfold lk
 rw[take_snoc h,Dc]
 by_cases hq:hitP f id s t=true
 ·rw[if_pos hq,List.filter_cons,if_pos hq];simp
 ·rw[if_neg hq,List.filter_cons,if_neg hq];simp
def atL (T:List PT) (f id:Int) (s:By):List Int:=((lk T f id s).map fun t=>t.1.at_).getD []
theorem asc_same {T:List PT} (hA:Asc (T.map (·.1))) {t u:PT} (ht:t∈T) (hu:u∈T) (h:sameK t.1 u.1):t=u:=by
 obtain⟨i,hi,rfl⟩:=Ig ht
 obtain⟨j,hj,rfl⟩:=Ig hu
 have hp:=List.pairwise_iff_getElem.1 hA
 rcases Nat.lt_trichotomy i j with hij | hij | hij
 ·have:=hp i j (by simpa using hi) (by simpa using hj) hij
  simp only[List.getElem_map]at this
  exact absurd h (ltK_ne this)
 ·subst hij;rfl
 ·have:=hp j i (by simpa using hj) (by simpa using hi) hij
  simp only[List.getElem_map]at this
  exact absurd (sameK_symm h) (ltK_ne this)
theorem atL_mem {T:List PT} (hA:Asc (T.map (·.1))) {f id n:Int}{s:By}:n∈atL T f id s↔∃ t∈T,t.1.fld=f∧t.1.id=id∧t.1.word=s∧n∈t.1.at_:=by
 unfold atL lk
 constructor
 ·intro h
  cases hc:(T.filter (hitP f id s)).getLast? with
  | none=>rw[hc]at h;cases h
  | some t =>
   rw[hc]at h
   have h1:t∈T.filter (hitP f id s):=L5 hc
   obtain⟨h2,h3⟩:=B8.1 h1
   obtain⟨h4,h5,h6⟩:=hitP_iff.1 h3
   exact⟨t,h2,h4,h5,h6,by simpa using h⟩
 ·rintro⟨t,h2,h4,h5,h6,h7⟩
  have h1:t∈T.filter (hitP f id s):=B8.2 ⟨h2,hitP_iff.2 ⟨h4,h5,h6⟩⟩
  cases hc:(T.filter (hitP f id s)).getLast? with
  | none=>rw[List.getLast?_eq_none_iff]at hc;rw[hc]at h1;cases h1
  | some u =>
   have hu:=L5 hc
   obtain⟨u2,u3⟩:=B8.1 hu
   obtain⟨u4,u5,u6⟩:=hitP_iff.1 u3
   have e:t=u:=asc_same hA h2 u2 ⟨by rw[h4,u4],by rw[h6,u6],by rw[h5,u5]⟩
   simpa [← e] using h7
def folP (T:List PT) (f id start:Int):Nat→List By→Bool
 | _,[]=>true
 | j,s::l=>(atL T f id s).contains (AU.wrap (start+(j:Int)))&&folP T f id start (j+1) l
def hits (T:List PT) (f:Int) (ws:List By) (id:Int):Bool:=match ws with
 | []=>false
 | s::l=>(atL T f id s).any fun n=>folP T f id n 0 (s::l)
def ofF (T:List PT) (f:Int):List Int:=(T.filter fun t=>decide (t.1.fld=f)).map fun t=>t.1.id
def phrQ (T:List PT) (f:Int) (ws:List By):List Int:=(ofF T f).filter (hits T f ws)
theorem wrap_add_sub {n start:Int}{j:Nat} (hn:0≤n∧n≤9223372036854775807) (hs:0≤start∧start≤9223372036854775807) (hj:j≤50000000):AU.wrap (n - (j:Int))=start↔n=AU.wrap (start+(j:Int)):=by
 have e1:AU.wrap (n - (j:Int))=n - j:=IntWalk.i64_in _ (by omega)
 rw[e1]
 by_cases h:start+(j:Int)≤9223372036854775807
 ·rw[IntWalk.i64_in (start+(j:Int)) (by omega)]
  omega
 ·have:AU.wrap (start+(j:Int))<0:=by
   unfold IntKind.wrap
   have hx:(start+(j:Int)) % 2 ^ 64=start+(j:Int):=Int.emod_eq_of_lt (by omega) (by omega)
   simp only[IntKind.signed,IntKind.bits,hx]
   rw[if_pos (by simp;omega)]
   omega
  omega
theorem fol_same {T:List PT} (hA:Asc (T.map (·.1))) (hat:∀ t∈T,∀ n∈t.1.at_,0≤n∧n≤9223372036854775807) {f id start:Int} (hs:0≤start∧start≤9223372036854775807):∀ (l:List By) (j:Nat),j+l.length≤50000000→folP T f id start j l=folF (T.map (·.1)) f id start j l
 | [],_,_=>rfl
 | s::l,j,hj=>by
  rw[AO]at hj
  rw[folP,folF_cons,fol_same hA hat hs l (j+1) (by omega)]
  congr 1
  rw[Bool.eq_iff_iff,ED,atL_mem hA,at_T,BM]
  constructor
  ·rintro⟨t,h1,h2,h3,h4,h5⟩
   refine⟨t,h1,?_⟩
   unfold atP
   have h6:=hat t h1 _ h5
   simp only[h2,h3,h4,decide_true,Bool.true_and,beq_self_eq_true,BM,decide_eq_true_eq]
   exact⟨_,h5,(wrap_add_sub h6 hs (by omega)).2 rfl⟩
  ·rintro⟨t,h1,h2⟩
   unfold atP at h2
   simp only[Bz,decide_eq_true_eq,beq_iff_eq,BM]at h2
   obtain⟨⟨⟨h3,h4⟩,h5⟩,n,h6,h7⟩:=h2
   have h8:=(wrap_add_sub (hat t h1 _ h6) hs (by omega)).1 h7
   exact⟨t,h1,h3,h5,h4,by rw[← h8];exact h6⟩
theorem ofF_mem {T:List PT}{f z:Int}:z∈ofF T f↔∃ t∈T,t.1.fld=f∧t.1.id=z:=by
 unfold ofF
 simp[and_assoc]
theorem phr_same {T:List PT} (hA:Asc (T.map (·.1))) (hat:∀ t∈T,∀ n∈t.1.at_,0≤n∧n≤9223372036854775807) (f:Int) (ws:List By) (hw:ws.length≤100000):Cp.puts Cp.ltI (phrQ T f ws)=phrase (T.map (·.1)) f ws:=by
 unfold phrase
 refine Cp.puts_same Cp.ordI fun z=>?_
 unfold phrQ
 rw[B8,ofF_mem]
 cases ws with
 | nil=>simp[hits,phr]
 | cons s l =>
  rw[AO]at hw
  unfold hits phr
  simp only[List.mem_flatMap,List.mem_map,B8,BM,Bz,decide_eq_true_eq,beq_iff_eq]
  constructor
  ·rintro⟨_,n,hn,hf⟩
   obtain⟨t,h1,h2,h3,h4,h5⟩:=(atL_mem hA).1 hn
   have hnb:=hat t h1 n h5
   rw[fol_same hA hat hnb _ _ (by rw[AO];omega),folF_cons,Bz]at hf
   exact⟨t.1,⟨⟨t,h1,rfl⟩,h2,h4⟩,n,⟨h5,by rw[h3];exact hf.2⟩,h3⟩
  ·rintro⟨p,⟨⟨t,h1,rfl⟩,h2,h4⟩,n,⟨h5,h6⟩,h3⟩
   have hnb:=hat t h1 n h5
   have hn:n∈atL T f z s:=(atL_mem hA).2 ⟨t,h1,h2,h3,h4,h5⟩
   refine⟨⟨t,h1,h2,h3⟩,n,hn,?_⟩
   rw[folP,Bz]
   refine⟨?_,?_⟩
   ·rw[ED]
    have e:AU.wrap (n+((0:Nat):Int))=n:=by
     rw[IntWalk.i64_in _ (by omega)];omega
    rw[e];exact hn
   ·rw[fol_same hA hat hnb _ _ (by omega),← h3]
    exact h6
end Ix
end Go.Proofs.YtlakomilichhnaaGreatDoor
