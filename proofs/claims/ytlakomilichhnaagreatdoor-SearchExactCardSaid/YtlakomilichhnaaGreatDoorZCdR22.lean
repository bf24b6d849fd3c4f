/- Texts of this seat's, what the claim needs of them. -/
import Derived.Test.YtlakomilichhnaaGreatDoorZOo
import Derived.Test.YtlakomilichhnaaGreatDoorZCdB22
namespace Go.Proofs.YtlakomilichhnaaGreatDoor
set_option maxRecDepth 100000
open Go.RowKit
open DataW renaming Trod→IB,trod→AF,weights→FU,weightsEach→GG
open Go renaming DataW→C4,MemPlace→BN,TypeId→Bd,Value→Ah
open List renaming getElem?_eq_some_iff→Ai,mem_append_left→Bx,mem_append_right→Cj
open Proofs.Tryz renaming prog→A3,underlying3→AI,underlying35→Bl
section
open Go.ChangeShapes Go.WideShapes Go.ChangeAt Go.Deep
section
variable {H : Type} {enc : Bd × Ah → H} {P : Program} {W : World} {base : Nat} {sp : Nat → Bool} {hd : Bool}
def Wt (P:Program) (t:Bd) (d:C4 H):Prop:=∀ n∈FU P t d,n≤140737488351232
theorem wt_all {e:Bd}:∀ {xs:List (C4 H)}{d:C4 H},d∈xs→∀ n∈FU P e d,n∈DataW.weightsAll P e xs
 | x::r,d,h,n,hn=>by
  unfold DataW.weightsAll
  rcases List.mem_cons.1 h with rfl | h
  ·exact Bx _ hn
  ·exact Cj _ (wt_all h n hn)
theorem wt_each:∀ {ts:List Bd}{xs:List (C4 H)}{j:Nat}{t:Bd}{d:C4 H},ts[j]?=some t→xs[j]?=some d→∀ n∈FU P t d,n∈GG P ts xs
 | [],_,j,t,d,h,_=>by simp at h
 | _::_,[],j,t,d,_,h=>by simp at h
 | t0::ts,x::r,0,t,d,h1,h2=>by
  intro n hn
  unfold GG
  obtain rfl:t0=t:=by simpa using h1
  obtain rfl:x=d:=by simpa using h2
  exact Bx _ hn
 | t0::ts,x::r,j+1,t,d,h1,h2=>by
  intro n hn
  unfold GG
  exact Cj _ (wt_each (ts:=ts) (xs:=r) (j:=j) (by simpa using h1) (by simpa using h2) n hn)
theorem Wt.elem {t e:Bd} (ht:P.underlying t=some (.slice e)) {xs sp:List (C4 H)} (h:Wt P t (.slice xs sp)) {d:C4 H} (hd:d∈xs):Wt P e d:=fun n hn=>h n (by
 simp only[FU,ht]
 exact List.mem_cons_of_mem _ (Bx _ (wt_all hd n hn)))
theorem Wt.arg {ts:List Bd}{ds:List (C4 H)} (h:(GG P ts ds).all (·≤reachBytes)=true) {j:Nat}{t:Bd}{d:C4 H} (ht:ts[j]?=some t) (hd:ds[j]?=some d):Wt P t d:=fun n hn=>by
 have:=List.all_eq_true.1 h n (wt_each ht hd n hn)
 rw[decide_eq_true_eq]at this
 unfold reachBytes at this
 omega
theorem open_listW {α:Type} [Inhabited α] {t e:Bd}{k:Nat} (ht:P.underlying t=some (.slice e)) (hk:P.cellsOf e=k) (h0:0<k) (R:α→List Ah→Prop)
  (hR:∀ n cs (x:C4 H × List BN),Wt P e x.1→AF enc P W base sp hd n e cs=some x→∃ it,R it cs) {fuel:Nat}{v:Ah}{x:C4 H × List BN} (hw:Wt P t x.1) (h:AF enc P W base sp hd fuel t [v]=some x) :
  ∃ (xs:List α) (a:Option Addr) (c:Nat),v=.slice a xs.length c∧xs.length≤c∧c≤maxLen∧∃ b o,(xs≠[]→a=some ⟨b,o,none⟩∧b<W.heap.size)∧∀ (j:Nat) x,xs[j]?=some x→∃ cs,R x cs∧∀ i,i<k→W.cell? ⟨b,o+j*k+i,none⟩=cs[i]?:=by
 rcases open_slice ht h with⟨e,_⟩ | ⟨a',len,cap,m,n,D,Pl,e,hb,hl,hm,hmm,hxe,hel⟩
 ·simp at e
  subst e
  exact⟨[],none,0,rfl,Nat.le_refl _,by unfold maxLen;omega,0,0,fun h=>absurd rfl h,fun j x hx=>by simp at hx⟩
 ·simp at e
  subst e
  have hlm:len≤m:=by rw[hmm];split <;> omega
  have ht0:=ht
  have hit:∀ i,i<len→∃ it:α,(a'.block<W.heap.size∧∃ cs,R it cs∧∀ j,j<k→W.cell? ((a'.add (i*k)).add j)=cs[j]?):=fun i hi=>by
   obtain⟨cs',hc,ht⟩:=hel i (by omega)
   obtain⟨it,hr⟩:=hR _ _ _ (by rw[hxe]at hw;exact Wt.elem ht0 hw (List.mem_map.2 ⟨i,List.mem_range.2 hi,rfl⟩)) ht
   rw[hk]at hc
   have hlt:=World.cells?_block hc h0
   have hblk:(a'.add (i*k)).block=a'.block:=by unfold Addr.add;split <;> rfl
   rw[hblk]at hlt
   exact⟨it,hlt,cs',hr,(World.cells?_some hc).2.2⟩
  have hat:∀ i,i<len→∃ (it:α) (u:Ah),W.cell? ((a'.add (i*k)).add 0)=some u:=fun i hi=>by
   obtain⟨cs',hc,ht⟩:=hel i (by omega)
   rw[hk]at hc
   obtain⟨_,hcl,hat⟩:=World.cells?_some hc
   have h1:0<cs'.length:=by omega
   exact⟨default,cs'[0]'h1,by rw[hat 0 h0];exact List.getElem?_eq_getElem h1⟩
  obtain⟨f,hf2⟩:=choose_lt hit
  have hget:∀ (j:Nat) x,((List.range len).map f)[j]?=some x→j<len∧x=f j:=fun j x hx=>by
   rw[List.getElem?_map]at hx
   obtain⟨y,hy,rfl⟩:=Option.map_eq_some_iff.1 hx
   have h1:j<len:=by have:=(Ai.1 hy).1;simpa using this
   rw[List.getElem?_range h1]at hy
   injection hy with hy
   exact⟨h1,by rw[hy]⟩
  obtain⟨b,o,spot⟩:=a'
  have hspot:0<len→spot=none:=fun h9=>by
   obtain⟨_,u,hu⟩:=hat 0 h9
   simpa [Addr.add] using World.cell?_spot hu
  refine⟨(List.range len).map f,some ⟨b,o,spot⟩,cap,by simp,by simpa using hl,hm,b,o,fun hne=>?_,fun j x hx=>?_⟩
  ·have h9:0<len:=by
    rcases Nat.eq_zero_or_pos len with h | h
    ·subst h;simp at hne
    ·exact h
   exact⟨by rw[hspot h9],(hf2 0 h9).1⟩
  ·obtain⟨hj,rfl⟩:=hget j x hx
   obtain⟨cs,hr,g⟩:=(hf2 j hj).2
   obtain rfl:=hspot (by omega)
   simp only[add_plain]at g
   exact⟨cs,hr,g⟩
end
section
variable {H : Type} {enc : Bd × Ah → H} {W : World} {base : Nat} {sp : Nat → Bool} {hd : Bool}
instance:Inhabited Rc.Fl:=⟨⟨⟨#[]⟩,⟨#[]⟩,[],0⟩⟩
instance:Inhabited Rc.Rd:=⟨⟨0,0,0,⟨#[]⟩,[]⟩⟩
theorem open_int14 {r:Reach}{b0:Nat}{v:Ah}{d:C4 H}{ps:List BN} (hv:Value.okWide A3 W r b0 3 v) (h:IB enc A3 W base sp hd 3 v d ps):∃ n:Int,v=.int .i64 n∧-9223372036854775808≤n∧n≤9223372036854775807:=by
 obtain⟨n,e,_,_,hn⟩:=open_int AI hv h
 exact⟨n,e,wf_i64 hn⟩
theorem open_intsW {fuel:Nat}{v:Ah}{x:C4 H × List BN} (hw:Wt A3 35 x.1) (h:AF enc A3 W base sp hd fuel 35 [v]=some x):∃ (xs:List Int) (a:Option Addr) (c:Nat),v=.slice a xs.length c∧Ix.IA W a c xs∧∀ n∈xs,-9223372036854775808≤n∧n≤9223372036854775807:=by
 obtain⟨xs,a,c,e,h1,h2,b,o,h3,h4⟩:=open_listW Bl (show A3.cellsOf 3=1 by kernel_rfl) (by omega) (fun (n:Int) cs=>cs=[.int .i64 n]∧-9223372036854775808≤n∧n≤9223372036854775807) (fun n cs x _ hx=>one_i64 AI hx) hw h
 refine⟨xs,a,c,e,⟨h1,h2,b,o,h3,fun j i x u hx hu=>?_⟩,fun x hx=>?_⟩
 ·obtain⟨cs,⟨rfl,_⟩,g⟩:=h4 j x hx
  have hi:i<1:=(Ai.1 hu).1
  rw[g i hi];exact hu
 ·obtain⟨j,hj⟩:=List.getElem?_of_mem hx
  obtain⟨cs,⟨_,hs⟩,_⟩:=h4 j x hj
  exact hs
theorem open_ints {r:Reach}{b0:Nat}{v:Ah}{d:C4 H}{ps:List BN} (hw:Wt A3 35 d) (hv:Value.okWide A3 W r b0 35 v) (h:IB enc A3 W base sp hd 35 v d ps):∃ (xs:List Int) (a:Option Addr) (c:Nat),v=.slice a xs.length c∧Ix.IA W a c xs:=by
 obtain⟨fuel,hf⟩:=h
 obtain⟨a0,len,cap,rfl⟩:=okWide_slice Bl hv
 obtain⟨xs,a,c,e,h1,_⟩:=open_intsW (x:=(d,ps)) hw (show AF enc A3 W base sp hd fuel 35 [.slice a0 len cap]=some (d,ps) from by simpa [Value.cells] using hf)
 exact⟨xs,a,c,e,h1⟩
end
end
end Go.Proofs.YtlakomilichhnaaGreatDoor
