/- Texts of this seat's, what the claim needs of them. -/
import Derived.Test.YtlakomilichhnaaGreatDoorZPf
import Derived.Test.YtlakomilichhnaaGreatDoorYXPb
import Derived.Test.YtlakomilichhnaaGreatDoorYXPd
import Derived.Test.YtlakomilichhnaaGreatDoorYXOx
namespace Go.Proofs.YtlakomilichhnaaGreatDoor
set_option maxHeartbeats 1600000
set_option maxRecDepth 100000
open Go.RowKit
open Cp renaming ltI→Bk,puts_mem→GU
open Go renaming cell_later→A0
open Lib renaming hid→J
open List renaming getElem?_eq_getElem→A7,getElem?_eq_some_iff→Ai,getElem?_map→AE,mem_filter→B8,mem_map→B3,mem_of_getElem?→Ag,mem_singleton→Bf,take_add_one→C8,take_length→Ap
open Rc renaming Rd→BF,recE→Ey,smallR→Fm
open Tx renaming below_drewN→Ba,step→A8
namespace Qr
end Qr
namespace Rc
def smallRs (rs:List Rd) (n:Int):Bool:=decide ((rs.length:Int)≤n∧∀ r∈rs,smallR r.fields=true)
theorem smallRs_of {rs:List Rd}{n:Int} (h:smallRs rs n=true):(rs.length:Int)≤n∧∀ r∈rs,smallR r.fields=true:=of_decide_eq_true h
end Rc
theorem SmallRecords_c (rs:List BF) (a:Option Addr) (c:Nat) (n:Int) (w:World) (h:Rc.RdA w a c rs) :
  Calls Tryz.prog 30 #[.slice a rs.length c,.int .i64 n] w fun e w'=>e=.returned (.bool (Rc.smallRs rs n))∧Below w.heap.size w w':=by
 have hmx:maxLen=9223372036854775807:=rfl
 have hcap:=h.cap
 have hmax:=h.max
 by_cases hl:(rs.length:Int)≤n
 ·go_enter Tryz.func30,Tryz.ntmps30
  go_wp2
  go_loopw [5] (fun i wr=>∃ k:Nat,k≤rs.length∧i=.int .i64 k∧Hid (∀ r∈rs.take k,Fm r.fields=true)∧Below w.heap.size w wr) (fun i _=>rs.length - (intOf i).toNat)
  case atStart=>exact⟨0,Nat.zero_le _,rfl,J (by simp),Below.refl _ _⟩
  case round =>
   obtain⟨k,hk,rfl,hI,hb⟩:=hrel
   by_cases hlt:k<rs.length
   ·obtain⟨r,hr⟩:∃ r,rs[k]?=some r:=⟨_,A7 hlt⟩
    obtain⟨b1,o1,sa,sc,rfl,_,c0,c1,c2,c3,c4,hs1⟩:=h.get hr
    replace c0:=A0 hb c0
    replace c1:=A0 hb c1
    replace c2:=A0 hb c2
    replace c3:=A0 hb c3
    replace c4:=A0 hb c4
    have HX:=J (hs1.below hb)
    cases hq:Fm r.fields with
    | true =>
     have hI2:Hid (∀ r∈rs.take (k+1),Fm r.fields=true):=J (Rc.all_take hr hq hI.out)
     have HQ:=J hq;clear hq hr hs1
     go_wp2_with (go_at_call 23;refine (Small_c r.fields sa sc r.id r.ver r.kind r.lang _ HX.out).mono ?_;rintro e w1 ⟨rfl,hb1⟩;rw[HQ.out])
     go_roundw
     case rel=>exact⟨k+1,by omega,by go_num,hI2,A8 hb hb1⟩
     case measure=>simp[intOf];omega
    | false =>
     have hf:Hid (Rc.smallRs rs n=false):=J (decide_eq_false fun h9=>by
      have:=h9.2 r (Ag hr)
      rw[hq]at this
      cases this)
     have HQ:=J hq;clear hq hr hs1
     go_wp2_with (go_at_call 23;refine (Small_c r.fields sa sc r.id r.ver r.kind r.lang _ HX.out).mono ?_;rintro e w1 ⟨rfl,hb1⟩;rw[HQ.out])
     go_ret
     exact⟨Tx.retb hf.out.symm,A8 hb hb1⟩
   ·obtain rfl:k=rs.length:=by omega
    have ht:Hid (Rc.smallRs rs n=true):=J (decide_eq_true ⟨hl,by have:=hI.out;rwa [Ap]at this⟩)
    go_wp2
    go_ret
    exact⟨Tx.retb ht.out.symm,hb⟩
 ·have hf:Hid (Rc.smallRs rs n=false):=J (decide_eq_false fun h9=>hl h9.1)
  have hgt:n<(rs.length:Int):=by omega
  clear hl
  go_enter Tryz.func30,Tryz.ntmps30
  go_wp2
  go_ret
  exact⟨Tx.retb hf.out.symm,Below.refl _ _⟩
namespace Sr
theorem ids_take {rs:List BF}{k:Nat}{x:BF} (h:rs[k]?=some x):ids (rs.take (k+1))=ids (rs.take k)++[x.id]:=by
 unfold ids
 rw[C8,h,List.map_append];rfl
theorem nodup_snoc {l:List Int}{x:Int} (h1:l.Nodup) (h2:∀ y∈l,y≠x):(l++[x]).Nodup:=by
 rw[List.nodup_append]
 refine⟨h1,by simp,fun a ha b hb=>?_⟩
 rw[Bf]at hb
 rw[hb]
 exact h2 a ha
theorem not_nodup {rs:List BF}{i j:Nat}{x y:BF} (h1:rs[i]?=some x) (h2:rs[j]?=some y) (hlt:j<i) (h:x.id=y.id):¬ (ids rs).Nodup:=by
 intro hn
 have hi:(ids rs)[i]?=some x.id:=by unfold ids;rw[AE,h1];rfl
 have hj:(ids rs)[j]?=some y.id:=by unfold ids;rw[AE,h2];rfl
 obtain⟨hi1,hi2⟩:=Ai.1 hi
 obtain⟨hj1,hj2⟩:=Ai.1 hj
 have:=(List.nodup_iff_pairwise_ne.1 hn)
 have:=List.pairwise_iff_getElem.1 this j i hj1 hi1 hlt
 exact this (by rw[hi2,hj2,h])
open Rc
def RightP (l:List Rd):Prop:=smallRs l 8=true∧(∀ r∈l,recE r=0∧r.id≠0)∧(ids l).Nodup
theorem RightP.rl {l:List Rd} (h:RightP l):Rl l:=by
 obtain⟨h1,h2,h3⟩:=h
 obtain⟨h4,h5⟩:=smallRs_of h1
 exact⟨fun r hr=>rg_of (h5 r hr) (h2 r hr).1,h3,by omega⟩
end Sr
theorem r22_Right_c (rs:List BF) (a:Option Addr) (c:Nat) (w:World) (h:Rc.RdA w a c rs) :
  Calls Tryz.prog 11 #[.slice a rs.length c] w fun e w'=>∃ b:Bool,e=.returned (.bool b)∧(b=true↔Sr.RightP rs)∧Below w.heap.size w w':=by
 have hml:maxLen=9223372036854775807:=rfl
 have hcap:=h.cap
 have hmax:=h.max
 have HS:=J h
 have SC:=SmallRecords_c rs a c 8 w h
 clear h
 cases hs:Rc.smallRs rs 8 with
 | false =>
  rw[hs]at SC
  have HF:Hid (¬ Sr.RightP rs):=J (fun h=>by rw[h.1]at hs;cases hs)
  have HSC:=J SC
  clear SC hs
  go_enter Tryz.func11,Tryz.ntmps11
  go_wp2_with (go_at_call 30;((with_reducible refine HSC.out.mono ?_);rintro e w1 ⟨rfl,hb1⟩))
  go_ret
  exact⟨false,rfl,⟨fun h=>(by cases h),fun h=>absurd h HF.out⟩,hb1⟩
 | true =>
  rw[hs]at SC
  have HSM:=J (Rc.smallRs_of hs).2
  have HSB:=J hs
  have HSC:=J SC
  clear SC hs
  go_enter Tryz.func11,Tryz.ntmps11
  go_wp2_with (go_at_call 30;((with_reducible refine HSC.out.mono ?_);rintro e w1 ⟨rfl,hb1⟩))
  go_loopw [3] (fun i wr=>∃ (k:Nat),k≤rs.length∧i=.int .i64 k∧Hid ((∀ r∈rs.take k,Ey r=0∧r.id≠0)∧(Sr.ids (rs.take k)).Nodup)∧Below w.heap.size w wr) (fun i _=>rs.length - (intOf i).toNat)
  case atStart=>exact⟨0,Nat.zero_le _,rfl,J (by simp),hb1⟩
  case round =>
   obtain⟨k,hk,rfl,hI,hb⟩:=hrel
   by_cases hlt:k<rs.length
   ·obtain⟨x,hx⟩:∃ x,rs[k]?=some x:=⟨_,A7 hlt⟩
    obtain⟨b,o,fa,fc,rfl,hbl,x0,x1,x2,x3,x4,hfx⟩:=HS.out.get hx
    replace x0:=A0 hb x0
    replace x1:=A0 hb x1
    replace x2:=A0 hb x2
    replace x3:=A0 hb x3
    replace x4:=A0 hb x4
    have hxm:=Ag hx
    have hsm:=HSM.out x hxm
    have RC:=r08_Right_c x.fields fa fc x.id x.ver x.kind x.lang wr (hfx.below hb) (fun f hf y hy=>by
     unfold Fm at hsm
     rw[decide_eq_true_eq]at hsm
     have h2:=hsm.2 f hf
     unfold Rc.smallF at h2
     rw[decide_eq_true_eq]at h2
     exact Nat.le_trans (h2.2 y hy) (by decide))
    obtain⟨E,hE⟩:∃ E,Ey x=E:=⟨_,rfl⟩
    rw[show Ey ⟨x.id,x.ver,x.kind,x.lang,x.fields⟩=E from hE]at RC
    have HRC:=J RC
    have HXM:=J hxm
    clear RC hsm hfx hxm
    by_cases hE0:E=0
    ·have hne:(E != 0)=false:=by rw[hE0];rfl
     by_cases hid0:x.id=0
     ·have hi0:(x.id == 0)=true:=beq_iff_eq.2 hid0
      have HF:Hid (¬ Sr.RightP rs):=J (fun h=>(h.2.1 x HXM.out).2 hid0)
      clear hE hE0 hx hid0
      go_wp2_with (go_at_call 24;((with_reducible refine HRC.out.mono ?_);rintro e w2 ⟨rfl,hb2⟩;have y0:=A0 hb2 x0))
      go_ret
      exact⟨false,rfl,⟨fun h=>(by cases h),fun h=>absurd h HF.out⟩,A8 hb hb2⟩
     ·have hi0:(x.id == 0)=false:=beq_eq_false_iff_ne.2 hid0
      have HOK:Hid (Ey x=0∧x.id≠0):=J ⟨by rw[hE,hE0],hid0⟩
      have HX:=J hx
      clear hE hE0 hid0 hx
      go_wp2_with (go_at_call 24;((with_reducible refine HRC.out.mono ?_);rintro e w2 ⟨rfl,hb2⟩;have y0':=A0 hb2 x0))
      have hbo:=A8 hb hb2
      clear hb x0 x1 x2 x3 x4
      obtain⟨wo,hwo⟩:∃ wo,wo=w2:=⟨_,rfl⟩
      subst hwo
      have x0:=y0'
      clear y0' hb2
      go_loopw [4] (fun i wr=>∃ (j:Nat),j≤k∧i=.int .i64 j∧Hid (∀ y∈Sr.ids (rs.take j),y≠x.id)∧Below wo.heap.size wo wr) (fun i _=>k - (intOf i).toNat)
      case atStart=>exact⟨0,Nat.zero_le _,rfl,J (by simp),Below.refl _ _⟩
      case round =>
       obtain⟨j,hj,rfl,hJ,hb2⟩:=hrel
       replace x0:=A0 hb2 x0
       by_cases hjl:j<k
       ·obtain⟨y,hy⟩:∃ y,rs[j]?=some y:=⟨_,A7 (by omega)⟩
        obtain⟨b2,o2,fa2,fc2,e2,_,y0,y1,y2,y3,y4,hfy⟩:=HS.out.get hy
        injection e2 with e2
        injection e2 with e2 e3
        subst e2 e3
        replace y0:=A0 hb2 (A0 hbo y0)
        clear y1 y2 y3 y4 hfy
        have hjr:j<rs.length:=by omega
        by_cases hxy:x.id=y.id
        ·have HM:Hid (¬ Sr.RightP rs):=J (fun h=>Sr.not_nodup HX.out hy hjl hxy h.2.2)
         have hq:(x.id == y.id)=true:=by rw[hxy];exact beq_self_eq_true _
         clear hxy hy
         go_wp2
         go_quiet (fail)
         have hbq:=Ba (Below.refl wr.heap.size wr) nq
         generalize wr.drewN nq=w5 at hbq ⊢
         go_wp2
         go_ret
         exact⟨false,rfl,⟨fun h=>(by cases h),fun h=>absurd h HM.out⟩,A8 (A8 hbo hb2) hbq⟩
        ·have HN:Hid (∀ z∈Sr.ids (rs.take (j+1)),z≠x.id):=J (fun z hz=>by
          rw[Sr.ids_take hy]at hz
          rcases List.mem_append.1 hz with h1 | h1
          ·exact hJ.out z h1
          ·rw[Bf]at h1;rw[h1];exact fun e=>hxy e.symm)
         have hq:(x.id == y.id)=false:=beq_eq_false_iff_ne.2 hxy
         clear hxy hy hJ
         go_wp2
         go_quiet (fail)
         have hbq:=Ba (Below.refl wr.heap.size wr) nq
         generalize wr.drewN nq=w5 at hbq ⊢
         go_wp2
         go_roundw
         case rel=>exact⟨j+1,hjl,by go_num,HN,A8 hb2 hbq⟩
         case measure=>simp[intOf];omega
       ·obtain rfl:j=k:=by omega
        have HN:Hid ((∀ r∈rs.take (j+1),Ey r=0∧r.id≠0)∧(Sr.ids (rs.take (j+1))).Nodup):=J ⟨Rc.all_take HX.out HOK.out hI.out.1,by rw[Sr.ids_take HX.out];exact Sr.nodup_snoc hI.out.2 hJ.out⟩
        clear hI hJ
        go_wp2
        go_roundw
        case rel=>exact⟨j+1,hlt,by go_num,HN,A8 hbo hb2⟩
        case measure=>simp[intOf];omega
    ·have hne:(E != 0)=true:=bne_iff_ne.2 hE0
     have HF:Hid (¬ Sr.RightP rs):=J (fun h=>hE0 (by rw[← hE];exact (h.2.1 x HXM.out).1))
     clear hE hE0 hx
     go_wp2_with (go_at_call 24;((with_reducible refine HRC.out.mono ?_);rintro e w2 ⟨rfl,hb2⟩))
     go_ret
     exact⟨false,rfl,⟨fun h=>(by cases h),fun h=>absurd h HF.out⟩,A8 hb hb2⟩
   ·obtain rfl:k=rs.length:=by omega
    have HM:Hid (Sr.RightP rs):=J (by
     have:=hI.out
     rw[Ap]at this
     exact⟨HSB.out,this.1,this.2⟩)
    go_wp2
    go_ret
    exact⟨true,rfl,⟨fun _=>HM.out,fun _=>rfl⟩,hb⟩
namespace Sr
open Rc hiding bys
open Qr
theorem evalQ_asc (x:List Ix.Post) (l:List Rd) (q:Qy):Cp.Asc Bk (evalQ x l q):=Cp.puts_asc Cp.ordI _
theorem asc_nodup {l:List Int} (h:Cp.Asc Bk l):l.Nodup:=h.imp fun {a b} h9 e=>by rw[e,Cp.ordI.irr]at h9;cases h9
theorem order_mem {l:List Rd}{ids:List Int}{by_:Int}{lang:By} (n:Int):n∈order l ids by_ lang↔∃ r∈l,r.id∈ids∧r.id=n:=by
 unfold order
 rw[B3]
 constructor
 ·rintro⟨v,hv,e⟩
  rw[GU,B3]at hv
  obtain⟨r,hr,rfl⟩:=hv
  obtain⟨h1,h2⟩:=B8.1 hr
  rw[vals_id]at e
  exact⟨r,h1,of_decide_eq_true h2,e⟩
 ·rintro⟨r,hr,h1,e⟩
  refine⟨vals by_ lang r,?_,by rw[vals_id];exact e⟩
  rw[GU,B3]
  exact⟨r,B8.2 ⟨hr,decide_eq_true h1⟩,rfl⟩
theorem order_zero_asc {l:List Rd}{ids:List Int}{lang:By}:Cp.Asc Bk (order l ids 0 lang):=by
 unfold order
 have h:=Cp.puts_asc ordV ((l.filter fun r=>decide (r.id∈ids)).map (vals 0 lang))
 have hv:∀ v∈Cp.puts ltV ((l.filter fun r=>decide (r.id∈ids)).map (vals 0 lang)),v=([],[],0,v.2.2.2):=fun v hv=>by
  rw[GU,B3]at hv
  obtain⟨r,_,rfl⟩:=hv
  rfl
 generalize Cp.puts ltV ((l.filter fun r=>decide (r.id∈ids)).map (vals 0 lang))=L at h hv
 unfold Cp.Asc at h ⊢
 rw[List.pairwise_map]
 refine (List.Pairwise.and_mem.1 h).imp fun {a b} h9=>?_
 obtain⟨ha,hb,h9⟩:=h9
 rw[hv a ha,hv b hb,num_lt]at h9
 unfold Bk
 rw[decide_eq_true_eq]
 omega
theorem order_back {l:List Rd}{N:List Int} (ha:Cp.Asc Bk N) (hN:∀ n∈N,∃ r∈l,r.id=n) {by_:Int}{lang lang2:By}:order l (order l N by_ lang) 0 lang2=N:=by
 refine Cp.asc_unique Cp.ordI _ _ order_zero_asc ha fun z=>?_
 rw[order_mem]
 constructor
 ·rintro⟨r,_,h1,rfl⟩
  rw[order_mem]at h1
  obtain⟨r2,_,h2,e⟩:=h1
  rw[← e]
  exact h2
 ·intro hz
  obtain⟨r,hr,rfl⟩:=hN z hz
  exact⟨r,hr,order_mem _ |>.2 ⟨r,hr,hz,rfl⟩,rfl⟩
theorem evalQ_of {x:List Ix.Post}{l:List Rd}{q:Qy}:∀ n∈evalQ x l q,∃ r∈l,r.id=n:=fun n hn=>by
 obtain⟨r,hr,_,e⟩:=(evalQ_fd x l q n).1 hn
 exact⟨r,hr,e⟩
theorem evalQ_has {l:List Rd} (hl:Rl l) (h1:∀ r∈l,r.id≠0) {q:Qy} (hq:Rq q) {r:Rd} (hr:r∈l):decide (r.id∈evalQ (Ix.build l) l q)=matchB r.fields q:=by
 rw[(evalQ_fd (Ix.build l) l q).mem hl.dist hr]
 have h2:=(hl.r r hr).ids
 have h3:=h1 r hr
 exact ev_exact hl.dist hr (by omega) (fun f=>Ix.terms_len (hl.r r hr).mod f) hq
theorem count_take {N:List Int}{j:Nat}{y a:Int} (h:N[j]?=some y):(N.take (j+1)).count a=(N.take j).count a+(if y=a then 1 else 0):=by
 rw[C8,h,List.count_append]
 congr 1
 by_cases e:y=a <;> simp[e]
theorem count_one {N:List Int} (hn:N.Nodup) (a:Int):N.count a=if a∈N then 1 else 0:=hn.count
def fnd (N:List Int) (l:List Rd):Nat:=(l.filter fun r=>decide (r.id∈N)).length
theorem fnd_take {N:List Int}{l:List Rd}{k:Nat}{r:Rd} (h:l[k]?=some r):fnd N (l.take (k+1))=fnd N (l.take k)+(if r.id∈N then 1 else 0):=by
 unfold fnd
 rw[C8,h,List.filter_append,List.length_append]
 by_cases e:r.id∈N <;> simp[e]
theorem fnd_all {N:List Int}{l:List Rd} (hN:N.Nodup) (hl:(l.map (·.id)).Nodup) (h:∀ n∈N,∃ r∈l,r.id=n):fnd N l=N.length:=by
 have h1:((l.filter fun r=>decide (r.id∈N)).map (·.id)).Nodup:=hl.sublist (List.Sublist.map _ List.filter_sublist)
 have h2:((l.filter fun r=>decide (r.id∈N)).map (·.id)).Perm N:=(List.perm_ext_iff_of_nodup h1 hN).2 fun z=>by
  rw[B3]
  constructor
  ·rintro⟨r,hr,rfl⟩
   exact of_decide_eq_true (B8.1 hr).2
  ·intro hz
   obtain⟨r,hr,rfl⟩:=h z hz
   exact⟨r,B8.2 ⟨hr,decide_eq_true hz⟩,rfl⟩
 have:=h2.length_eq
 rw[List.length_map]at this
 exact this
theorem fnd_le (N:List Int) (l:List Rd):fnd N l≤l.length:=List.length_filter_le _ _
end Sr
end Go.Proofs.YtlakomilichhnaaGreatDoor
