/- Texts of this seat's, what the claim needs of them. -/
import Derived.Test.YtlakomilichhnaaGreatDoorYEOf
import Derived.Test.YtlakomilichhnaaGreatDoorZOj
namespace Go.Proofs.YtlakomilichhnaaGreatDoor
set_option maxHeartbeats 6400000
set_option maxRecDepth 100000
open Go.RowKit
open Bool renaming false_or→GZ,true_and→J8,true_or→JD
open Br renaming cells_new_at→AR
open Cp renaming ltI→Bk,put→DO,puts→Ca
open Go renaming Addr→Ao,Calls→Ac,World→A9,cell_later→A0,maxLen→Au
open IntKind renaming i64→AU
open Ix renaming By→Hl,OwnI→BO,PT→Cx,PsA→Zq,atP→Zw,drop_cons→IG,folF→H8,idsT→EQ,ownI_snoc→GT,prefP→D8,right→Hn,row_lower→EJ,wordP→DL
open Ix.IA renaming cell→Gy,of_own→BW
open Lib renaming extract_data→E6,hid→J,toList_data→AA
open List renaming any_cons→Lh,append_assoc→B0,append_nil→AD,drop_length→D6,flatMap_cons→DR,getElem?_eq_getElem→A7,length_append→Af,length_cons→AO,length_map→At,length_take→Az,map_cons→Cf,mem_append→AZ,mem_cons_of_mem→Bw,mem_cons_self→AY,mem_map→B3,mem_of_getElem?→Ag,mem_of_mem_take→Cb,take_length→Ap
open Nat renaming add_zero→Bs,eq_zero_or_pos→IM,le_refl→An,zero_le→Ae
open Option renaming none→A4,some→A2
open Proofs.Tryz renaming prog→A3,underlying35→Bl
open RowKit renaming Below→A6,intOf→Ad
open RowKit.Below renaming refl→Ab
open Tx renaming below_drewN→Ba,newb→Aa,step→A8
open Value renaming oneCell'→AT
open World renaming ownsRow_nil→AH
namespace Rc
end Rc
namespace Ix
open Rc
def prv (T:List PT):Nat→Option Post
 | 0=>A4
 | k+1=>(T[k]?).map (·.1)
theorem prv_pos {T:List PT}{k:Nat} (h:0<k) {q:PT} (hq:T[k - 1]?=A2 q):prv T k=A2 q.1:=by
 cases k with
 | zero=>omega
 | succ k=>rw[prv,show k+1 - 1=k by omega]at *;rw[hq];rfl
theorem ascF_drop {l:List Int}{m:Nat}{x y:Int} (h:l[m]?=A2 y):ascF x (l.drop m)=(decide (x<y)&&ascF y (l.drop (m+1))):=by
 rw[drop_cons h,ascF]
theorem okP_false {p:Post} (h:p.fld<0∨4<p.fld∨p.word=[]∨p.id<1∨p.at_=[]∨(∃ n r,p.at_=n::r∧n<0)):okP p=false:=by
 unfold okP
 rcases h with h | h | h | h | h | ⟨n,r,h,hn⟩
 ·rw[decide_eq_false (by omega:¬ 0≤p.fld)];simp
 ·rw[decide_eq_false (by omega:¬ p.fld≤4)];simp
 ·rw[h];simp
 ·rw[decide_eq_false (by omega:¬ 1≤p.id)];simp
 ·rw[h];simp
 ·rw[h,ascF,decide_eq_false (by omega:¬ -1<n)];simp
theorem okP_true {p:Post}{n:Int}{r:List Int} (h1:0≤p.fld) (h2:p.fld≤4) (h3:p.word≠[]) (h4:1≤p.id) (h5:p.at_=n::r) (h6:0≤n):okP p=ascF n r:=by
 unfold okP
 rw[decide_eq_true h1,decide_eq_true h2,decide_eq_true h4,h5,ascF,decide_eq_true (by omega:(-1:Int)<n)]
 simp[h3]
end Ix
theorem r20_Right_c (T:List Cx) (a:Option Ao) (c:Nat) (w:A9) (h:Zq w a c T) (hn:T.length≤1000000000000) :
  Ac A3 33 #[.agg #[.slice a T.length c]] w fun e w'=>e=.returned (.bool (Hn (T.map (·.1))))∧A6 w.heap.size w w':=by
 have hcap:=h.fa.cap
 obtain⟨W,hW⟩:∃ W,w.alloc (.cells #[.slice a T.length c] 24)=W:=⟨_,rfl⟩
 have hB:A6 w.heap.size w W:=by rw[← hW];exact Aa _ _
 have c0:W.cell? ⟨w.heap.size,0,A4⟩=A2 (.slice a T.length c):=by rw[← hW];simp
 have HS:=J (h.below hB);clear h
 go_enter Tryz.func33,Tryz.ntmps33
 go_wp2
 clear hW
 go_loopw [3] (fun i wr=>∃ (k:Nat),k≤T.length∧i=.int .i64 k∧Hid (Ix.rightF (Ix.prv T k) ((T.drop k).map (·.1))=Hn (T.map (·.1)))∧A6 W.heap.size W wr) (fun i _=>T.length - (Ad i).toNat)
 case atStart=>exact⟨0,Ae _,rfl,J rfl,Ab _ _⟩
 case round =>
  obtain⟨k,hk,rfl,hE,hb⟩:=hrel
  have hbs:=hb.size
  replace c0:=A0 hb c0
  by_cases hlt:k<T.length
  ·obtain⟨⟨y,ya,yc⟩,hy⟩:∃ y,T[k]?=A2 y:=⟨_,A7 hlt⟩
   have hdr:=hE.out
   rw[IG hy,Cf,Ix.rightF_cons]at hdr
   have HE:=J hdr;clear hdr hE
   obtain⟨b,o,rfl,hbl,g0,g1,g2,g3,hat⟩:=HS.out.get hy
   replace g0:=A0 hb g0
   replace g1:=A0 hb g1
   replace g2:=A0 hb g2
   replace g3:=A0 hb g3
   have HAT:=J hat
   clear hat
   simp only at g0 g1 g2 g3
   have hbN:A6 wr.heap.size wr (wr.alloc (.cells #[.int .i64 y.fld,.string ⟨y.word.toArray⟩,.int .i64 y.id,.slice ya y.at_.length yc] 100)):=Aa _ _
   have HB2:=J (A8 (A8 hB hb) hbN)
   by_cases hx:y.fld<0
   ·have HF:Hid (Hn (T.map (·.1))=false):=J (by rw[← HE.out,Ix.okP_false (.inl hx)];rfl)
    have f0:decide (y.fld<0)=true:=by simpa using hx
    clear hx hy
    go_wp2
    go_ret
    exact⟨by rw[HF.out];rfl,HB2.out⟩
   have f0:decide (y.fld<0)=false:=by simpa using hx
   have f0x:=J hx
   clear hx
   by_cases hx:4<y.fld
   ·have HF:Hid (Hn (T.map (·.1))=false):=J (by rw[← HE.out,Ix.okP_false (.inr (.inl hx))];rfl)
    have f1:decide (4<y.fld)=true:=by simpa using hx
    clear hx hy
    go_wp2
    go_ret
    exact⟨by rw[HF.out];rfl,HB2.out⟩
   have f1:decide (4<y.fld)=false:=by simpa using hx
   have f1x:=J hx
   clear hx
   by_cases hx:y.word=[]
   ·have HF:Hid (Hn (T.map (·.1))=false):=J (by rw[← HE.out,Ix.okP_false (.inr (.inr (.inl hx)))];rfl)
    have f2:(y.word == [])=true:=by simpa using hx
    clear hx hy
    go_wp2
    go_ret
    exact⟨by rw[HF.out];rfl,HB2.out⟩
   have f2:(y.word == [])=false:=by simpa using hx
   have f2x:=J hx
   clear hx
   by_cases hx:y.id<1
   ·have HF:Hid (Hn (T.map (·.1))=false):=J (by rw[← HE.out,Ix.okP_false (.inr (.inr (.inr (.inl hx))))];rfl)
    have f3:decide (y.id<1)=true:=by simpa using hx
    clear hx hy
    go_wp2
    go_ret
    exact⟨by rw[HF.out];rfl,HB2.out⟩
   have f3:decide (y.id<1)=false:=by simpa using hx
   have f3x:=J hx
   clear hx
   by_cases hx:y.at_=[]
   ·have HF:Hid (Hn (T.map (·.1))=false):=J (by rw[← HE.out,Ix.okP_false (.inr (.inr (.inr (.inr (.inl hx)))))];rfl)
    have f4:((y.at_.length:Int) == 0)=true:=by simpa using hx
    clear hx hy
    go_wp2
    go_ret
    exact⟨by rw[HF.out];rfl,HB2.out⟩
   have f4:((y.at_.length:Int) == 0)=false:=by simpa using hx
   have f4x:=J hx
   clear hx
   obtain⟨n0,r0,hnr⟩:∃ n r,y.at_=n::r:=by
    cases hz:y.at_ with
    | nil=>exact absurd hz f4x.out
    | cons n r=>exact⟨n,r,rfl⟩
   have hl0:0<y.at_.length:=by rw[hnr];simp
   obtain⟨pb,po,rfl,hpb,p0⟩:=Gy HAT.out (k:=0) (x:=n0) (by rw[hnr];rfl)
   rw[Bs]at p0
   replace p0:=A0 hb p0
   have q0:=A0 hbN p0
   by_cases hx:n0<0
   ·have HF:Hid (Hn (T.map (·.1))=false):=J (by rw[← HE.out,Ix.okP_false (.inr (.inr (.inr (.inr (.inr ⟨n0,r0,hnr,hx⟩)))))];rfl)
    have f5:decide (n0<0)=true:=by simpa using hx
    clear hx hy hnr
    go_wp2
    go_ret
    exact⟨by rw[HF.out];rfl,HB2.out⟩
   have f5:decide (n0<0)=false:=by simpa using hx
   have HOK:Hid (Ix.okP y=Ix.ascF n0 r0):=J (Ix.okP_true (by have:=f0x.out;omega) (by have:=f1x.out;omega) f2x.out (by have:=f3x.out;omega) hnr (by omega))
   have HNR:=J hnr
   have HPN:Hid (Ix.prv T (k+1)=A2 y):=J (by rw[Ix.prv,hy];rfl)
   obtain⟨W1,hW1⟩:∃ W1,wr.alloc (.cells #[.int .i64 y.fld,.string ⟨y.word.toArray⟩,.int .i64 y.id,.slice (A2 ⟨pb,po,A4⟩) y.at_.length yc] 100)=W1:=⟨_,rfl⟩
   have HKP1:Hid (W1.heap[wr.heap.size]?=A2 (.cells #[.int .i64 y.fld,.string ⟨y.word.toArray⟩,.int .i64 y.id,.slice (A2 ⟨pb,po,A4⟩) y.at_.length yc] 100 (0,0))):=J (by rw[← hW1];exact heap_alloc_new _ _)
   have hb1:A6 wr.heap.size wr W1:=by rw[← hW1];exact hbN
   have zc:=(Tx.blk HKP1.out).1
   have z0:=A0 hb1 p0
   clear hx hnr hy hbN
   rcases IM k with hk0 | hk0
   ·subst hk0
    simp only[Nat.zero_mul,Bs]at g0 g1 g2 g3
    have HPV:Hid (Ix.prevB (Ix.prv T 0) y=true):=J rfl
    go_wp2
    clear hW1
    go_quiet (fail)
    have hbq:=Ba (Ab W1.heap.size W1) nq
    have hb5:=A8 hb1 hbq
    generalize W1.drewN nq=w5 at *
    have HKP:=J (Tx.blk_later HKP1.out hbq)
    clear HKP1 zc hbq hb1
    go_wp2
    have HKP5:=HKP.out
    clear HKP
    have z3:w5.cell? ⟨wr.heap.size,3,A4⟩=A2 (.slice (A2 ⟨pb,po,A4⟩) y.at_.length yc):=(Tx.blk HKP5).1 3
    have hpc:=HAT.out.cap
    have hpm:=HAT.out.max
    unfold Au at hpm
    have HPT:Hid (∀ (m:Nat) (x:Int),y.at_[m]?=A2 x→w5.cell? ⟨pb,po+m,A4⟩=A2 (.int .i64 x)):=J (fun m x hx=>by
     obtain⟨b',o',e1,_,e2⟩:=Gy HAT.out hx
     injection e1 with e1
     injection e1 with e1 e3
     subst e1 e3
     exact A0 (A8 hb hb5) e2)
    have hc5:w5.cell? ⟨w.heap.size,0,A4⟩=A2 (.slice (A2 ⟨b,o,A4⟩) T.length c):=A0 hb5 c0
    clear HKP5
    obtain⟨wn,hwn⟩:∃ wn,wn=wr:=⟨_,rfl⟩
    subst hwn
    go_loopw [5] (fun j wr=>∃ (m:Nat) (x:Int),1≤m∧m≤y.at_.length∧j=.int .i64 m∧Hid (y.at_[m - 1]?=A2 x)∧Hid (Ix.ascF x (y.at_.drop m)=Ix.ascF n0 r0)∧A6 w5.heap.size w5 wr) (fun j _=>y.at_.length - (Ad j).toNat)
    case atStart=>exact⟨1,n0,An _,hl0,by go_num,J (by rw[HNR.out];rfl),J (by rw[HNR.out];rfl),Ab _ _⟩
    case round =>
     obtain⟨m,x,hm1,hml,rfl,hmx,hA,hb6⟩:=hrel
     have hb6s:=hb6.size
     replace z3:=A0 hb6 z3
     replace hc5:=A0 hb6 hc5
     by_cases hlt2:m<y.at_.length
     ·obtain⟨n,hn2⟩:∃ n,y.at_[m]?=A2 n:=⟨_,A7 hlt2⟩
      have hA2:=hA.out
      rw[Ix.ascF_drop hn2]at hA2
      have e1:=A0 hb6 (HPT.out m n hn2)
      have e2:=A0 hb6 (HPT.out (m - 1) x hmx.out)
      have hw:=IntWalk.i64_in ((m:Int) - 1) ⟨by omega,by omega⟩
      have hw2:(m:Int) - 1=((m - 1:Nat):Int):=by omega
      rw[hw2]at hw
      have i1:(m:Int)<(y.at_.length:Int):=by omega
      have i2:(0:Int)≤(m:Int):=by omega
      have i3:((m - 1:Nat):Int)<(y.at_.length:Int):=by omega
      have i4:(0:Int)≤((m - 1:Nat):Int):=by omega
      have i5:((m - 1:Nat):Int).toNat=m - 1:=by omega
      have i6:AU.wrap ((m:Int) - 1)=((m - 1:Nat):Int):=by rw[hw2];exact hw
      clear hw hw2
      by_cases hxn:x<n
      ·rw[decide_eq_true hxn,J8]at hA2
       have HA2:=J hA2
       have hd:decide (n≤x)=false:=by simp;omega
       have HN2:=J hn2
       clear hA2 hA hmx hn2 hxn
       go_wp2
       go_quiet (fail)
       go_wp2
       go_roundw
       case rel=>exact⟨m+1,n,by omega,hlt2,by go_num,J HN2.out,HA2,A8 hb6 (Ba (Ab wr.heap.size wr) nq)⟩
       case measure=>simp[Ad];omega
      ·rw[decide_eq_false hxn,Bool.false_and]at hA2
       have HF:Hid (Hn (T.map (·.1))=false):=J (by rw[← HE.out,HOK.out,← hA2];rfl)
       have hd:decide (n≤x)=true:=by simp;omega
       clear hA2 hA hmx hn2 hxn
       go_wp2
       go_quiet (fail)
       go_wp2
       go_ret
       exact⟨by rw[HF.out];rfl,A8 (A8 (A8 hB hb) hb5) (A8 hb6 (Ba (Ab wr.heap.size wr) nq))⟩
     ·obtain rfl:m=y.at_.length:=by omega
      have hA2:=hA.out
      rw[D6,Ix.ascF]at hA2
      have HN:Hid (Ix.rightF (Ix.prv T (0+1)) ((T.drop (0+1)).map (·.1))=Hn (T.map (·.1))):=J (by
       rw[← HE.out,HOK.out,← hA2,HPV.out,HPN.out];rfl)
      clear hA2 hA hmx
      go_wp2
      go_roundw
      case rel=>exact⟨0+1,hlt,by go_num,HN,A8 (A8 hb hb5) hb6⟩
      case measure=>simp[Ad];omega
   ·obtain⟨⟨q,qa,qc⟩,hq⟩:∃ q,T[k - 1]?=A2 q:=⟨_,A7 (by omega)⟩
    obtain⟨b',o',e1,_,v0,v1,v2,v3,_⟩:=HS.out.get hq
    injection e1 with e1
    injection e1 with e1 e3
    subst e1 e3
    replace v0:=A0 hb1 (A0 hb v0)
    replace v1:=A0 hb1 (A0 hb v1)
    replace v2:=A0 hb1 (A0 hb v2)
    replace v3:=A0 hb1 (A0 hb v3)
    have u0:=A0 hb1 c0
    simp only at v0 v1 v2 v3
    have hpp:=Ix.prv_pos hk0 hq
    have hw:=IntWalk.i64_in ((k:Int) - 1) ⟨by omega,by omega⟩
    have hw2:(k:Int) - 1=((k - 1:Nat):Int):=by omega
    have i6:AU.wrap ((k:Int) - 1)=((k - 1:Nat):Int):=by rw[hw,hw2]
    have i3:((k - 1:Nat):Int)<(T.length:Int):=by omega
    have i4:(0:Int)≤((k - 1:Nat):Int):=by omega
    have i5:((k - 1:Nat):Int).toNat=k - 1:=by omega
    have i7:decide ((0:Int)<(k:Int))=true:=by simp;omega
    have i8:decide (0<k)=true:=by simp;omega
    have HPP:=J hpp
    clear hw hw2 hpp hq
    have CB:Hid (∀ v w',Ix.ltK q y=v→Ac A3 79 #[.agg #[.int .i64 q.fld,.string ⟨q.word.toArray⟩,.int .i64 q.id,.slice qa q.at_.length qc],.agg #[.int .i64 y.fld,.string ⟨y.word.toArray⟩,.int .i64 y.id,.slice (A2 ⟨pb,po,A4⟩) y.at_.length yc]] w' fun e w''=>e=.returned (.bool v)∧A6 w'.heap.size w' w''):=J (fun v w' hv=>by rw[← hv];exact r20_before_c q y qa (A2 ⟨pb,po,A4⟩) qc yc w')
    go_wp2
    clear hW1
    go_still_tail 10,(by kernel_rfl)
    change wpList _ _ _ _ _ W1.drew
    have hbq:=(Ab W1.heap.size W1).drew
    generalize W1.drew=wq at hbq ⊢
    cases hlk:Ix.ltK q y with
    | false =>
     have HLK:=J hlk
     have HF:Hid (Hn (T.map (·.1))=false):=J (by rw[← HE.out,HPP.out,Ix.prevB,hlk,Bool.and_false];rfl)
     clear hlk
     go_wp2_with (go_at_call 79;((with_reducible refine (CB.out false _ HLK.out).mono ?_);rintro e w5 ⟨rfl,hb5x⟩))
     go_ret
     exact⟨by rw[HF.out];rfl,A8 (A8 hB hb) (A8 hb1 (A8 hbq hb5x))⟩
    | true =>
     have HLK:=J hlk
     have HPV:Hid (Ix.prevB (Ix.prv T k) y=true):=J (by rw[HPP.out,Ix.prevB,hlk])
     clear hlk
     go_wp2_with (go_at_call 79;((with_reducible refine (CB.out true _ HLK.out).mono ?_);rintro e w5 ⟨rfl,hb5x⟩;have hb5y:=A8 hbq hb5x;have hb5:=A8 hb1 hb5y;have HKP:=J (Tx.blk_later HKP1.out hb5y)))
     clear HKP1 zc hb1 u0 v0 v1 v2 v3 i3 i4 i5 i6 i7 i8
     have HKP5:=HKP.out
     clear HKP
     have z3:w5.cell? ⟨wr.heap.size,3,A4⟩=A2 (.slice (A2 ⟨pb,po,A4⟩) y.at_.length yc):=(Tx.blk HKP5).1 3
     have hpc:=HAT.out.cap
     have hpm:=HAT.out.max
     unfold Au at hpm
     have HPT:Hid (∀ (m:Nat) (x:Int),y.at_[m]?=A2 x→w5.cell? ⟨pb,po+m,A4⟩=A2 (.int .i64 x)):=J (fun m x hx=>by
      obtain⟨b',o',e1,_,e2⟩:=Gy HAT.out hx
      injection e1 with e1
      injection e1 with e1 e3
      subst e1 e3
      exact A0 (A8 hb hb5) e2)
     have hc5:w5.cell? ⟨w.heap.size,0,A4⟩=A2 (.slice (A2 ⟨b,o,A4⟩) T.length c):=A0 hb5 c0
     clear HKP5
     obtain⟨wn,hwn⟩:∃ wn,wn=wr:=⟨_,rfl⟩
     subst hwn
     go_loopw [5] (fun j wr=>∃ (m:Nat) (x:Int),1≤m∧m≤y.at_.length∧j=.int .i64 m∧Hid (y.at_[m - 1]?=A2 x)∧Hid (Ix.ascF x (y.at_.drop m)=Ix.ascF n0 r0)∧A6 w5.heap.size w5 wr) (fun j _=>y.at_.length - (Ad j).toNat)
     case atStart=>exact⟨1,n0,An _,hl0,by go_num,J (by rw[HNR.out];rfl),J (by rw[HNR.out];rfl),Ab _ _⟩
     case round =>
      obtain⟨m,x,hm1,hml,rfl,hmx,hA,hb6⟩:=hrel
      have hb6s:=hb6.size
      replace z3:=A0 hb6 z3
      replace hc5:=A0 hb6 hc5
      by_cases hlt2:m<y.at_.length
      ·obtain⟨n,hn2⟩:∃ n,y.at_[m]?=A2 n:=⟨_,A7 hlt2⟩
       have hA2:=hA.out
       rw[Ix.ascF_drop hn2]at hA2
       have e1:=A0 hb6 (HPT.out m n hn2)
       have e2:=A0 hb6 (HPT.out (m - 1) x hmx.out)
       have hw:=IntWalk.i64_in ((m:Int) - 1) ⟨by omega,by omega⟩
       have hw2:(m:Int) - 1=((m - 1:Nat):Int):=by omega
       rw[hw2]at hw
       have i1:(m:Int)<(y.at_.length:Int):=by omega
       have i2:(0:Int)≤(m:Int):=by omega
       have i3:((m - 1:Nat):Int)<(y.at_.length:Int):=by omega
       have i4:(0:Int)≤((m - 1:Nat):Int):=by omega
       have i5:((m - 1:Nat):Int).toNat=m - 1:=by omega
       have i6:AU.wrap ((m:Int) - 1)=((m - 1:Nat):Int):=by rw[hw2];exact hw
       clear hw hw2
       by_cases hxn:x<n
       ·rw[decide_eq_true hxn,J8]at hA2
        have HA2:=J hA2
        have hd:decide (n≤x)=false:=by simp;omega
        have HN2:=J hn2
        clear hA2 hA hmx hn2 hxn
        go_wp2
        go_quiet (fail)
        go_wp2
        go_roundw
        case rel=>exact⟨m+1,n,by omega,hlt2,by go_num,J HN2.out,HA2,A8 hb6 (Ba (Ab wr.heap.size wr) nq)⟩
        case measure=>simp[Ad];omega
       ·rw[decide_eq_false hxn,Bool.false_and]at hA2
        have HF:Hid (Hn (T.map (·.1))=false):=J (by rw[← HE.out,HOK.out,← hA2];rfl)
        have hd:decide (n≤x)=true:=by simp;omega
        clear hA2 hA hmx hn2 hxn
        go_wp2
        go_quiet (fail)
        go_wp2
        go_ret
        exact⟨by rw[HF.out];rfl,A8 (A8 (A8 hB hb) hb5) (A8 hb6 (Ba (Ab wr.heap.size wr) nq))⟩
      ·obtain rfl:m=y.at_.length:=by omega
       have hA2:=hA.out
       rw[D6,Ix.ascF]at hA2
       have HN:Hid (Ix.rightF (Ix.prv T (k+1)) ((T.drop (k+1)).map (·.1))=Hn (T.map (·.1))):=J (by
        rw[← HE.out,HOK.out,← hA2,HPV.out,HPN.out];rfl)
       clear hA2 hA hmx
       go_wp2
       go_roundw
       case rel=>exact⟨k+1,hlt,by go_num,HN,A8 (A8 hb hb5) hb6⟩
       case measure=>simp[Ad];omega
  ·obtain rfl:k=T.length:=by omega
   have hN:=hE.out
   rw[D6]at hN
   have HN:=J hN;clear hN hE
   go_wp2
   go_ret
   exact⟨by rw[← HN.out];rfl,A8 hB hb⟩
namespace Ix
open Rc
theorem put_drop {xs:List Int}{k:Nat}{x:Int} (n:Int) (h:xs[k]?=A2 x):DO Bk (xs.drop k) n=if x<n then x::DO Bk (xs.drop (k+1)) n else if x=n then x::xs.drop (k+1) else n::x::xs.drop (k+1):=by
 rw[drop_cons h,DO]
 unfold Bk
 simp only[decide_eq_true_eq]
theorem puts_snoc (l:List Int) (x:Int):Ca Bk (l++[x])=DO Bk (Ca Bk l) x:=by
 unfold Ca
 rw[List.foldl_append]
 rfl
theorem put_len (n:Int):∀ xs:List Int,(DO Bk xs n).length≤xs.length+1
 | []=>by simp[DO]
 | y::r=>by
  have:=put_len n r
  unfold DO
  split
  ·simp;omega
  ·split <;> simp
theorem foldl_put_len:∀ (l acc:List Int),(l.foldl (DO Bk) acc).length≤acc.length+l.length
 | [],acc=>An _
 | x::l,acc=>by
  have h1:=foldl_put_len l (DO Bk acc x)
  have h2:=put_len x acc
  rw[List.foldl_cons,AO]
  omega
theorem puts_len (l:List Int):(Ca Bk l).length≤l.length:=by
 have:=foldl_put_len l []
 unfold Ca
 simpa using this
theorem begP_short {s w:By} (h:w.length<s.length):begP s w=false:=by
 unfold begP
 rw[List.take_of_length_le (by omega),beq_eq_false_iff_ne]
 intro e
 rw[e]at h
 omega
end Ix
theorem r20_insert_c (xs:List Int) (n:Int) (a:Option Ao) (c:Nat) (w:A9) (h:Ix.IA w a c xs) (hn:xs.length≤1000000000000) :
  Ac A3 154 #[.slice a xs.length c,.int .i64 n] w fun e w'=>∃ v,e=.returned v∧BO w' w.heap.size v (DO Bk xs n)∧A6 w.heap.size w w':=by
 obtain⟨i0,hi0,hz0,hz1,hz2⟩:=info_parts info_int
 have HI:=J hi0;clear hi0
 have hcap:=h.cap
 have HS:=J h;clear h
 go_enter Tryz.func154,Tryz.ntmps154
 go_wp2
 go_loopw [5,6,7] (fun v d i wr=>∃ (k:Nat) (L:List Int) (d0:Bool),k≤xs.length∧i=.int .i64 k∧d=.bool d0∧Hid (L++(if d0=true then xs.drop k else DO Bk (xs.drop k) n)=DO Bk xs n)∧L.length≤2*k∧BO wr w.heap.size v L∧A6 w.heap.size w wr) (fun _ _ i _=>xs.length - (Ad i).toNat)
 case atStart=>exact⟨0,[],false,Ae _,rfl,rfl,J (by simp),by simp,AH _ _ _ _,Ab _ _⟩
 case round =>
  obtain⟨k,L,d,hk,rfl,rfl,hE,hL,hown,hb⟩:=hrel
  have hbs:=hb.size
  have HK:Hid (L.length≤2000000000000):=J (by omega)
  by_cases hlt:k<xs.length
  ·obtain⟨y,hy⟩:∃ y,xs[k]?=A2 y:=⟨_,A7 hlt⟩
   have hpd:=Ix.put_drop n hy
   have hdr:=IG hy
   obtain⟨b,o,rfl,hbl,f0⟩:=Gy HS.out hy
   have e0:=A0 hb f0
   clear hy
   cases d with
   | true =>
    have HN:Hid ((L++[y])++(if true=true then xs.drop (k+1) else DO Bk (xs.drop (k+1)) n)=DO Bk xs n):=J (by
     rw[← hE.out,if_pos rfl,if_pos rfl,hdr,B0];rfl)
    clear hdr hE hpd
    cases hq:(y == n)
    all_goals
     go_wp2_with (at_builtin;go_must (refine wpList_append_sl rfl _ _ 35 rfl w.heap.size 3 i0 _ 1 8 Bl HI.out hz0 hz1 hz2 rfl (by decide) _ (L.length) _ rfl (hown.alloc _) (A2 ⟨_,0,A4⟩) 1 1 [.int .i64 y] rfl rfl (fun h9=>by cases h9) (fun ad had=>by cases had;exact AR _ _ (by first | rfl | simp) _ _) (by simp[AT]) (by unfold Au;have:=HK.out;omega) (by have:=HK.out;omega) (by simp;omega) ?_);intro v7 w7 hown7 hg7 hnil7)
     go_roundw
     case rel=>exact⟨k+1,L++[y],true,hlt,by go_num,rfl,HN,by simp;omega,GT hown7,(hb.alloc hbs _).grown hg7 (by simp;omega) (fun j hj=>(hown.lt j hj).1)⟩
     case measure=>simp[Ad];omega
   | false =>
    by_cases h1:y<n
    ·have HN:Hid ((L++[y])++(if false=true then xs.drop (k+1) else DO Bk (xs.drop (k+1)) n)=DO Bk xs n):=J (by
      rw[← hE.out,if_neg (by decide),if_neg (by decide),hpd,if_pos h1,B0];rfl)
     have t1:(y == n)=false:=by rw[beq_eq_false_iff_ne];omega
     have t2:decide (n<y)=false:=by simp;omega
     clear hdr hE hpd h1
     go_wp2_with (at_builtin;go_must (refine wpList_append_sl rfl _ _ 35 rfl w.heap.size 3 i0 _ 1 8 Bl HI.out hz0 hz1 hz2 rfl (by decide) _ (L.length) _ rfl (hown.alloc _) (A2 ⟨_,0,A4⟩) 1 1 [.int .i64 y] rfl rfl (fun h9=>by cases h9) (fun ad had=>by cases had;exact AR _ _ (by first | rfl | simp) _ _) (by simp[AT]) (by unfold Au;have:=HK.out;omega) (by have:=HK.out;omega) (by simp;omega) ?_);intro v7 w7 hown7 hg7 hnil7)
     go_roundw
     case rel=>exact⟨k+1,L++[y],false,hlt,by go_num,rfl,HN,by simp;omega,GT hown7,(hb.alloc hbs _).grown hg7 (by simp;omega) (fun j hj=>(hown.lt j hj).1)⟩
     case measure=>simp[Ad];omega
    ·by_cases h2:y=n
     ·have HN:Hid ((L++[y])++(if true=true then xs.drop (k+1) else DO Bk (xs.drop (k+1)) n)=DO Bk xs n):=J (by
       rw[← hE.out,if_pos rfl,if_neg (by decide),hpd,if_neg h1,if_pos h2,B0];rfl)
      have t1:(y == n)=true:=by rw[beq_iff_eq];exact h2
      clear hdr hE hpd h1 h2
      go_wp2_with (at_builtin;go_must (refine wpList_append_sl rfl _ _ 35 rfl w.heap.size 3 i0 _ 1 8 Bl HI.out hz0 hz1 hz2 rfl (by decide) _ (L.length) _ rfl (hown.alloc _) (A2 ⟨_,0,A4⟩) 1 1 [.int .i64 y] rfl rfl (fun h9=>by cases h9) (fun ad had=>by cases had;exact AR _ _ (by first | rfl | simp) _ _) (by simp[AT]) (by unfold Au;have:=HK.out;omega) (by have:=HK.out;omega) (by simp;omega) ?_);intro v7 w7 hown7 hg7 hnil7)
      go_roundw
      case rel=>exact⟨k+1,L++[y],true,hlt,by go_num,rfl,HN,by simp;omega,GT hown7,(hb.alloc hbs _).grown hg7 (by simp;omega) (fun j hj=>(hown.lt j hj).1)⟩
      case measure=>simp[Ad];omega
     ·have HN:Hid (((L++[n])++[y])++(if true=true then xs.drop (k+1) else DO Bk (xs.drop (k+1)) n)=DO Bk xs n):=J (by
       rw[← hE.out,if_pos rfl,if_neg (by decide),hpd,if_neg h1,if_neg h2,B0,B0];rfl)
      have t1:(y == n)=false:=by rw[beq_eq_false_iff_ne];exact h2
      have t2:decide (n<y)=true:=by simp;omega
      have HK2:Hid ((L++[n]).length≤2000000000001):=J (by rw[Af];simp;have:=HK.out;omega)
      clear hdr hE hpd h1 h2
      go_wp2_with (first
       |(at_builtin;refine wpList_append_sl rfl _ _ 35 rfl w.heap.size 3 i0 _ 1 8 Bl HI.out hz0 hz1 hz2 rfl (by decide) _ ((L++[n]).length) _ rfl ((GT hown7).alloc _) (A2 ⟨_,0,A4⟩) 1 1 [.int .i64 y] rfl rfl (fun h9=>by cases h9) (fun ad had=>by cases had;exact AR _ _ (by first | rfl | simp) _ _) (by simp[AT]) (by unfold Au;have:=HK2.out;omega) (by have:=HK2.out;omega) (by simp;omega) ?_;intro v8 w8 hown8 hg8 hnil8;have hb8:A6 w.heap.size w w8:=(hb7.alloc hb7.size _).grown hg8 (by simp;omega) (fun j hj=>(hown7.lt j hj).1))
       |(at_builtin;go_must (refine wpList_append_sl rfl _ _ 35 rfl w.heap.size 3 i0 _ 1 8 Bl HI.out hz0 hz1 hz2 rfl (by decide) _ (L.length) _ rfl (hown.alloc _) (A2 ⟨_,0,A4⟩) 1 1 [.int .i64 n] rfl rfl (fun h9=>by cases h9) (fun ad had=>by cases had;exact AR _ _ (by first | rfl | simp) _ _) (by simp[AT]) (by unfold Au;have:=HK.out;omega) (by have:=HK.out;omega) (by simp;omega) ?_);intro v7 w7 hown7 hg7 hnil7;have hb7:A6 w.heap.size w w7:=(hb.alloc hbs _).grown hg7 (by simp;omega) (fun j hj=>(hown.lt j hj).1);have hb7s:=hb7.size;have p0:=A0 hb7 f0))
      go_roundw
      case rel=>exact⟨k+1,(L++[n])++[y],true,hlt,by go_num,rfl,HN,by simp;omega,GT hown8,hb8⟩
      case measure=>simp[Ad];omega
  ·obtain rfl:k=xs.length:=by omega
   cases d with
   | true =>
    have HN:=J hE.out
    rw[if_pos rfl,D6,AD]at HN
    go_wp2
    go_ret
    exact⟨_,rfl,by rw[← HN.out];exact hown,hb⟩
   | false =>
    have HN:=J hE.out
    rw[if_neg (by decide),D6,DO]at HN
    go_wp2_with (at_builtin;go_must (refine wpList_append_sl rfl _ _ 35 rfl w.heap.size 3 i0 _ 1 8 Bl HI.out hz0 hz1 hz2 rfl (by decide) _ (L.length) _ rfl (hown.alloc _) (A2 ⟨_,0,A4⟩) 1 1 [.int .i64 n] rfl rfl (fun h9=>by cases h9) (fun ad had=>by cases had;exact AR _ _ (by first | rfl | simp) _ _) (by simp[AT]) (by unfold Au;have:=HK.out;omega) (by have:=HK.out;omega) (by simp;omega) ?_);intro v7 w7 hown7 hg7 hnil7)
    go_ret
    exact⟨_,rfl,by rw[← HN.out];exact GT hown7,(hb.alloc hbs _).grown hg7 (by simp;omega) (fun j hj=>(hown.lt j hj).1)⟩
theorem r20_Word_c (T:List Cx) (a:Option Ao) (c:Nat) (f:Int) (s:Hl) (w:A9) (h:Zq w a c T) (hn:T.length≤1000000000000)  :
  Ac A3 89 #[.agg #[.slice a T.length c],.int .i64 f,.string ⟨s.toArray⟩] w fun e w'=>∃ v,e=.returned v∧BO w' w.heap.size v (Ca Bk (EQ (DL f s) T))∧A6 w.heap.size w w':=by
 have hcap:=h.fa.cap
 obtain⟨W,hW⟩:∃ W,w.alloc (.cells #[.slice a T.length c] 24)=W:=⟨_,rfl⟩
 have hB:A6 w.heap.size w W:=by rw[← hW];exact Aa _ _
 have c0:W.cell? ⟨w.heap.size,0,A4⟩=A2 (.slice a T.length c):=by rw[← hW];simp
 have HS:=J (h.below hB);clear h
 have hbB:=hB.size
 go_enter Tryz.func89,Tryz.ntmps89
 go_wp2
 clear hW
 go_loopw [7,8] (fun v i wr=>∃ (k:Nat),k≤T.length∧i=.int .i64 k∧BO wr W.heap.size v (Ca Bk (EQ (DL f s) (T.take k)))∧A6 W.heap.size W wr) (fun _ i _=>T.length - (Ad i).toNat)
 case atStart=>exact⟨0,Ae _,rfl,AH _ _ _ _,Ab _ _⟩
 case round =>
  obtain⟨k,hk,rfl,hown,hb⟩:=hrel
  have hbs:=hb.size
  replace c0:=A0 hb c0
  by_cases hlt:k<T.length
  ·obtain⟨⟨y,ya,yc⟩,hy⟩:∃ y,T[k]?=A2 y:=⟨_,A7 hlt⟩
   have hit:=Ix.idsT_take (p:=DL f s) hy
   obtain⟨b,o,rfl,hbl,g0,g1,g2,g3,_⟩:=HS.out.get hy
   simp only at g0 g1 g2 g3 hit
   replace g0:=A0 hb g0
   replace g1:=A0 hb g1
   replace g2:=A0 hb g2
   have hpl:=Ix.puts_len (EQ (DL f s) (T.take k))
   have hpl2:=Ix.idsT_len (DL f s) (T.take k)
   rw[Az]at hpl2
   obtain⟨L,hL⟩:∃ L,Ca Bk (EQ (DL f s) (T.take k))=L:=⟨_,rfl⟩
   have HL:=J hL
   rw[hL]at hown hpl
   have hpl3:L.length≤1000000000000:=by omega
   obtain⟨oa,oc,rfl,hio,_⟩:=BW hown rfl
   have HIO:=J hio
   clear hio hpl hpl2 hL hy
   by_cases hx0:¬ y.fld=f
   ·have t0:(y.fld == f)=false:=by simpa using hx0
    have hP:DL f s y=false:=by unfold DL;simp[hx0]
    clear hx0
    rw[if_neg (by rw[hP];decide),AD]at hit
    have HP:Hid (Ca Bk (EQ (DL f s) (T.take (k+1)))=L):=J (by rw[hit,HL.out])
    clear hit hP
    go_wp2
    go_roundw
    case rel=>exact⟨k+1,hlt,by go_num,by rw[HP.out];exact hown,hb⟩
    case measure=>simp[Ad];omega
   have t0:(y.fld == f)=true:=by simpa using hx0
   by_cases hx1:¬ y.word=s
   ·have t1:(y.word == s)=false:=by simpa using hx1
    have hP:DL f s y=false:=by unfold DL;simp[hx1]
    clear hx0 hx1
    rw[if_neg (by rw[hP];decide),AD]at hit
    have HP:Hid (Ca Bk (EQ (DL f s) (T.take (k+1)))=L):=J (by rw[hit,HL.out])
    clear hit hP
    go_wp2
    go_roundw
    case rel=>exact⟨k+1,hlt,by go_num,by rw[HP.out];exact hown,hb⟩
    case measure=>simp[Ad];omega
   have t1:(y.word == s)=true:=by simpa using hx1
   have hP:DL f s y=true:=by unfold DL;simp at hx0 hx1;simp[hx0,hx1]
   clear hx0 hx1
   rw[if_pos hP]at hit
   have HP:Hid (Ca Bk (EQ (DL f s) (T.take (k+1)))=DO Bk L y.id):=J (by rw[hit,Ix.puts_snoc,HL.out])
   clear hit hP
   go_wp2_with (go_at_call 154;((with_reducible refine (r20_insert_c L y.id oa oc _ HIO.out hpl3).mono ?_);rintro e w5 ⟨v5,rfl,hown5,hb5⟩))
   go_roundw
   case rel=>exact⟨k+1,hlt,by go_num,by rw[HP.out];exact EJ hown5 hbs,A8 hb hb5⟩
   case measure=>simp[Ad];omega
  ·obtain rfl:k=T.length:=by omega
   rw[Ap]at hown
   go_wp2
   go_ret
   exact⟨_,rfl,EJ hown hbB,A8 hB hb⟩
theorem r20_Prefix_c (T:List Cx) (a:Option Ao) (c:Nat) (f:Int) (s:Hl) (w:A9) (h:Zq w a c T) (hn:T.length≤1000000000000) (hw:∀ t∈T,t.1.word.length≤140737488351232) :
  Ac A3 90 #[.agg #[.slice a T.length c],.int .i64 f,.string ⟨s.toArray⟩] w fun e w'=>∃ v,e=.returned v∧BO w' w.heap.size v (Ca Bk (EQ (D8 f s) T))∧A6 w.heap.size w w':=by
 have hcap:=h.fa.cap
 obtain⟨W,hW⟩:∃ W,w.alloc (.cells #[.slice a T.length c] 24)=W:=⟨_,rfl⟩
 have hB:A6 w.heap.size w W:=by rw[← hW];exact Aa _ _
 have c0:W.cell? ⟨w.heap.size,0,A4⟩=A2 (.slice a T.length c):=by rw[← hW];simp
 have HS:=J (h.below hB);clear h
 have hbB:=hB.size
 go_enter Tryz.func90,Tryz.ntmps90
 go_wp2
 clear hW
 go_loopw [7,8] (fun v i wr=>∃ (k:Nat),k≤T.length∧i=.int .i64 k∧BO wr W.heap.size v (Ca Bk (EQ (D8 f s) (T.take k)))∧A6 W.heap.size W wr) (fun _ i _=>T.length - (Ad i).toNat)
 case atStart=>exact⟨0,Ae _,rfl,AH _ _ _ _,Ab _ _⟩
 case round =>
  obtain⟨k,hk,rfl,hown,hb⟩:=hrel
  have hbs:=hb.size
  replace c0:=A0 hb c0
  by_cases hlt:k<T.length
  ·obtain⟨⟨y,ya,yc⟩,hy⟩:∃ y,T[k]?=A2 y:=⟨_,A7 hlt⟩
   have hit:=Ix.idsT_take (p:=D8 f s) hy
   obtain⟨b,o,rfl,hbl,g0,g1,g2,g3,_⟩:=HS.out.get hy
   simp only at g0 g1 g2 g3 hit
   replace g0:=A0 hb g0
   replace g1:=A0 hb g1
   replace g2:=A0 hb g2
   have hpl:=Ix.puts_len (EQ (D8 f s) (T.take k))
   have hpl2:=Ix.idsT_len (D8 f s) (T.take k)
   rw[Az]at hpl2
   obtain⟨L,hL⟩:∃ L,Ca Bk (EQ (D8 f s) (T.take k))=L:=⟨_,rfl⟩
   have HL:=J hL
   rw[hL]at hown hpl
   have hpl3:L.length≤1000000000000:=by omega
   obtain⟨oa,oc,rfl,hio,_⟩:=BW hown rfl
   have HIO:=J hio
   have hwl:=hw _ (Ag hy)
   simp only at hwl
   clear hio hpl hpl2 hL hy
   by_cases hx0:s=[]
   ·have t0:(s == [])=true:=by simpa using hx0
    have hP:D8 f s y=false:=by unfold D8;simp[hx0]
    clear hx0
    rw[if_neg (by rw[hP];decide),AD]at hit
    have HP:Hid (Ca Bk (EQ (D8 f s) (T.take (k+1)))=L):=J (by rw[hit,HL.out])
    clear hit hP
    go_wp2
    go_roundw
    case rel=>exact⟨k+1,hlt,by go_num,by rw[HP.out];exact hown,hb⟩
    case measure=>simp[Ad];omega
   have t0:(s == [])=false:=by simpa using hx0
   by_cases hx1:¬ y.fld=f
   ·have t1:(y.fld == f)=false:=by simpa using hx1
    have hP:D8 f s y=false:=by unfold D8;simp[hx1]
    clear hx0 hx1
    rw[if_neg (by rw[hP];decide),AD]at hit
    have HP:Hid (Ca Bk (EQ (D8 f s) (T.take (k+1)))=L):=J (by rw[hit,HL.out])
    clear hit hP
    go_wp2
    go_roundw
    case rel=>exact⟨k+1,hlt,by go_num,by rw[HP.out];exact hown,hb⟩
    case measure=>simp[Ad];omega
   have t1:(y.fld == f)=true:=by simpa using hx1
   by_cases hx2:y.word.length<s.length
   ·have t2:decide (s.length≤y.word.length)=false:=by simpa using hx2
    have hP:D8 f s y=false:=by unfold D8;rw[Ix.begP_short hx2];simp
    clear hx0 hx1 hx2
    rw[if_neg (by rw[hP];decide),AD]at hit
    have HP:Hid (Ca Bk (EQ (D8 f s) (T.take (k+1)))=L):=J (by rw[hit,HL.out])
    clear hit hP
    go_wp2
    go_roundw
    case rel=>exact⟨k+1,hlt,by go_num,by rw[HP.out];exact hown,hb⟩
    case measure=>simp[Ad];omega
   have t2:decide (s.length≤y.word.length)=true:=by simpa using hx2
   have hle:(s.length:Int)≤(y.word.length:Int):=by omega
   have hle2:s.length≤y.word.length:=by omega
   by_cases hx3:¬ y.word.take s.length=s
   ·have t3:(((⟨y.word.toArray⟩:ByteArray).extract 0 s.length).toList == s)=false:=by rw[AA,E6];simpa using hx3
    have hP:D8 f s y=false:=by unfold D8 Ix.begP;simp[hx3]
    clear hx0 hx1 hx2 hx3
    rw[if_neg (by rw[hP];decide),AD]at hit
    have HP:Hid (Ca Bk (EQ (D8 f s) (T.take (k+1)))=L):=J (by rw[hit,HL.out])
    clear hit hP
    go_wp2
    go_roundw
    case rel=>exact⟨k+1,hlt,by go_num,by rw[HP.out];exact hown,hb⟩
    case measure=>simp[Ad];omega
   have t3:(((⟨y.word.toArray⟩:ByteArray).extract 0 s.length).toList == s)=true:=by rw[AA,E6];simpa using hx3
   have hP:D8 f s y=true:=by unfold D8 Ix.begP;simp at hx1 hx3;simp[hx0,hx1,hx3]
   clear hx0 hx1 hx2 hx3
   rw[if_pos hP]at hit
   have HP:Hid (Ca Bk (EQ (D8 f s) (T.take (k+1)))=DO Bk L y.id):=J (by rw[hit,Ix.puts_snoc,HL.out])
   clear hit hP
   go_wp2_with (go_at_call 154;((with_reducible refine (r20_insert_c L y.id oa oc _ HIO.out hpl3).mono ?_);rintro e w5 ⟨v5,rfl,hown5,hb5⟩))
   go_roundw
   case rel=>exact⟨k+1,hlt,by go_num,by rw[HP.out];exact EJ hown5 hbs,A8 hb hb5⟩
   case measure=>simp[Ad];omega
  ·obtain rfl:k=T.length:=by omega
   rw[Ap]at hown
   go_wp2
   go_ret
   exact⟨_,rfl,EJ hown hbB,A8 hB hb⟩
namespace Ix
open Rc
def phrP (x:List Post) (f:Int) (s0:By) (l:List By) (p:Post):List Int:=if wordP f s0 p=true then (p.at_.filter fun n=>folF x f p.id n 1 l).map fun _=>p.id else []
def phrT (x:List Post) (f:Int) (s0:By) (l:List By) (T:List PT):List Int:=T.flatMap fun t=>phrP x f s0 l t.1
theorem phr_T (T:List PT) (f:Int) (s0:By) (l:List By):phr (T.map (·.1)) f (s0::l)=phrT (T.map (·.1)) f s0 l T:=by
 have gen:∀ (x:List Post) (U:List PT),((U.map (·.1)).filter fun p=>decide (p.fld=f)&&(p.word == s0)).flatMap (fun p=>(p.at_.filter fun n=>folF x f p.id n 1 l).map fun _=>p.id)=U.flatMap fun t=>phrP x f s0 l t.1:=by
  intro x U
  induction U with
  | nil=>rfl
  | cons t U ih =>
   rw[Cf,DR,← ih]
   by_cases hp:wordP f s0 t.1=true
   ·rw[List.filter_cons_of_pos (by exact hp),DR,phrP,if_pos hp]
   ·rw[List.filter_cons_of_neg (by exact hp),phrP,if_neg hp,List.nil_append]
 exact gen _ _
theorem phrT_take {x:List Post}{f:Int}{s0:By}{l:List By}{T:List PT}{k:Nat}{t:PT} (h:T[k]?=A2 t):phrT x f s0 l (T.take (k+1))=phrT x f s0 l (T.take k)++phrP x f s0 l t.1:=by
 unfold phrT
 rw[take_snoc h,List.flatMap_append]
 simp
theorem phrP_len (x:List Post) (f:Int) (s0:By) (l:List By) (p:Post):(phrP x f s0 l p).length≤p.at_.length:=by
 unfold phrP
 split
 ·rw[At];exact List.length_filter_le _ _
 ·exact Ae _
theorem phrT_len {x:List Post}{f:Int}{s0:By}{l:List By}:∀ {T:List PT},(∀ t∈T,t.1.at_.length≤9223372036854775807)→(phrT x f s0 l T).length≤9223372036854775807*T.length
 | [],_=>Ae _
 | t::T,h=>by
  have ih:=phrT_len (x:=x) (f:=f) (s0:=s0) (l:=l) (T:=T) (fun u hu=>h u (Bw _ hu))
  have h1:=h t (AY ..)
  have h2:=phrP_len x f s0 l t.1
  unfold phrT at ih ⊢
  rw[DR,Af,AO]
  omega
theorem phrT_mem {x:List Post}{f:Int}{s0:By}{l:List By}{T:List PT}{k:Nat}{z:Int} (h:z∈phrT x f s0 l (T.take k)):∃ t∈T,t.1.id=z:=by
 unfold phrT at h
 obtain⟨t,ht,hz⟩:=List.mem_flatMap.1 h
 refine⟨t,Cb ht,?_⟩
 unfold phrP at hz
 split at hz
 ·obtain⟨_,_,e⟩:=B3.1 hz
  exact e
 ·cases hz
theorem nodup_len {α:Type}:∀ {a b:List α},a.Nodup→(∀ z∈a,z∈b)→a.length≤b.length
 | [],_,_,_=>Ae _
 | x::r,b,hn,hs=>by
  obtain⟨b1,b2,rfl⟩:=List.append_of_mem (hs x AY)
  rw[List.nodup_cons]at hn
  have:=nodup_len (a:=r) (b:=b1++b2) hn.2 fun z hz=>by
   have h1:=hs z (Bw _ hz)
   rw[AZ,List.mem_cons]at h1
   rcases h1 with h1 | h1 | h1
   ·exact List.mem_append.2 (.inl h1)
   ·rw[h1]at hz;exact absurd hz hn.1
   ·exact List.mem_append.2 (.inr h1)
  simp only[Af,AO]at *
  omega
theorem puts_sub {T:List PT}{l:List Int} (h:∀ z∈l,∃ t∈T,t.1.id=z):(Ca Bk l).length≤T.length:=by
 have h1:(Ca Bk l).Nodup:=(Cp.puts_asc Cp.ordI l).imp fun {a b} h9 e=>by rw[e,Cp.ordI.irr]at h9;cases h9
 have h2:=nodup_len (b:=T.map fun t=>t.1.id) h1 fun z hz=>by
  obtain⟨t,ht,e⟩:=h z ((Cp.puts_mem _ _ _).1 hz)
  exact B3.2 ⟨t,ht,e⟩
 simpa using h2
theorem filter_take {p:Int→Bool}{l:List Int}{k:Nat}{n id:Int} (h:l[k]?=A2 n):((l.take (k+1)).filter p).map (fun _=>id)=((l.take k).filter p).map (fun _=>id)++(if p n=true then [id] else []):=by
 rw[take_snoc h,List.filter_append,List.map_append]
 congr 1
 by_cases hp:p n=true <;> simp[hp]
end Ix
theorem r20_at_c (T:List Cx) (a:Option Ao) (c:Nat) (f:Int) (s:Hl) (id start:Int) (far:Nat) (w:A9) (h:Zq w a c T) (hn:T.length≤1000000000000) :
  Ac A3 155 #[.agg #[.slice a T.length c],.int .i64 f,.string ⟨s.toArray⟩,.int .i64 id,.int .i64 start,.int .i64 far] w fun e w'=>e=.returned (.bool (Ix.at_ (T.map (·.1)) f s id start far))∧A6 w.heap.size w w':=by
 have hcap:=h.fa.cap
 obtain⟨W,hW⟩:∃ W,w.alloc (.cells #[.slice a T.length c] 24)=W:=⟨_,rfl⟩
 have hB:A6 w.heap.size w W:=by rw[← hW];exact Aa _ _
 have c0:W.cell? ⟨w.heap.size,0,A4⟩=A2 (.slice a T.length c):=by rw[← hW];simp
 have HS:=J (h.below hB);clear h
 rw[Ix.at_T]
 go_enter Tryz.func155,Tryz.ntmps155
 go_wp2
 clear hW
 go_loopw [13] (fun i wr=>∃ (k:Nat),k≤T.length∧i=.int .i64 k∧Hid ((T.drop k).any (fun t=>Zw f s id start far t.1)=T.any (fun t=>Zw f s id start far t.1))∧A6 W.heap.size W wr) (fun i _=>T.length - (Ad i).toNat)
 case atStart=>exact⟨0,Ae _,rfl,J rfl,Ab _ _⟩
 case round =>
  obtain⟨k,hk,rfl,hE,hb⟩:=hrel
  have hbs:=hb.size
  replace c0:=A0 hb c0
  by_cases hlt:k<T.length
  ·have hdr:=hE.out
   obtain⟨⟨y,ya,yc⟩,hy⟩:∃ y,T[k]?=A2 y:=⟨_,A7 hlt⟩
   obtain⟨b,o,rfl,hbl,g0,g1,g2,g3,hat⟩:=HS.out.get hy
   simp only at g0 g1 g2 g3 hat
   replace g0:=A0 hb g0
   replace g1:=A0 hb g1
   replace g2:=A0 hb g2
   replace g3:=A0 hb g3
   have HAT:=J (hat.below hb)
   clear hat
   rw[IG hy,Lh]at hdr
   simp only at hdr
   have HE:=J hdr
   clear hdr hE hy
   obtain⟨W1,hW1⟩:∃ W1,wr.alloc (.cells #[.int .i64 y.fld,.string ⟨y.word.toArray⟩,.int .i64 y.id,.slice ya y.at_.length yc] 100)=W1:=⟨_,rfl⟩
   have hb1:A6 wr.heap.size wr W1:=by rw[← hW1];exact Aa _ _
   have z0:W1.cell? ⟨wr.heap.size,0,A4⟩=A2 (.int .i64 y.fld):=by rw[← hW1];simp
   have z1:W1.cell? ⟨wr.heap.size,1,A4⟩=A2 (.string ⟨y.word.toArray⟩):=by rw[← hW1];simp
   have z2:W1.cell? ⟨wr.heap.size,2,A4⟩=A2 (.int .i64 y.id):=by rw[← hW1];simp
   have z3:W1.cell? ⟨wr.heap.size,3,A4⟩=A2 (.slice ya y.at_.length yc):=by rw[← hW1];simp
   have HA1:=J (HAT.out.below hb1)
   have hpc:=HAT.out.cap
   have hpm:=HAT.out.max
   unfold Au at hpm
   have hw1:=A8 hb hb1
   by_cases hx0:¬ y.fld=f
   ·have t0:(y.fld != f)=true:=by simpa using hx0
    have hP:Zw f s id start far y=false:=by unfold Zw;simp[hx0]
    clear hx0
    have HN:Hid ((T.drop (k+1)).any (fun t=>Zw f s id start far t.1)=T.any (fun t=>Zw f s id start far t.1)):=J (by rw[← HE.out,hP,GZ])
    clear hP
    go_wp2
    go_roundw
    case rel=>exact⟨k+1,hlt,by go_num,HN,hw1⟩
    case measure=>simp[Ad];omega
   have t0:(y.fld != f)=false:=by simpa using hx0
   by_cases hx1:¬ y.word=s
   ·have t1:(y.word == s)=false:=by simpa using hx1
    have hP:Zw f s id start far y=false:=by unfold Zw;simp[hx1]
    clear hx0 hx1
    have HN:Hid ((T.drop (k+1)).any (fun t=>Zw f s id start far t.1)=T.any (fun t=>Zw f s id start far t.1)):=J (by rw[← HE.out,hP,GZ])
    clear hP
    go_wp2
    go_roundw
    case rel=>exact⟨k+1,hlt,by go_num,HN,hw1⟩
    case measure=>simp[Ad];omega
   have t1:(y.word == s)=true:=by simpa using hx1
   by_cases hx2:¬ y.id=id
   ·have t2:(y.id != id)=true:=by simpa using hx2
    have hP:Zw f s id start far y=false:=by unfold Zw;simp[hx2]
    clear hx0 hx1 hx2
    have HN:Hid ((T.drop (k+1)).any (fun t=>Zw f s id start far t.1)=T.any (fun t=>Zw f s id start far t.1)):=J (by rw[← HE.out,hP,GZ])
    clear hP
    go_wp2
    go_roundw
    case rel=>exact⟨k+1,hlt,by go_num,HN,hw1⟩
    case measure=>simp[Ad];omega
   have t2:(y.id != id)=false:=by simpa using hx2
   have hP:Zw f s id start far y=y.at_.any fun n=>decide (AU.wrap (n - far)=start):=by
    simp only[Decidable.not_not]at hx0 hx1 hx2
    unfold Zw
    simp[hx0,hx1,hx2]
   have HP:=J hP
   clear hP hx0 hx1 hx2
   go_wp2
   clear hW1
   go_loop [15] (fun i=>∃ (m:Nat),m≤y.at_.length∧i=.int .i64 m∧Hid ((y.at_.drop m).any (fun n=>decide (AU.wrap (n - far)=start))=y.at_.any (fun n=>decide (AU.wrap (n - far)=start)))) (fun i=>y.at_.length - (Ad i).toNat)
   case atStart=>exact⟨0,Ae _,rfl,J rfl⟩
   case round =>
    obtain⟨m,hm,rfl,hA⟩:=hrel
    by_cases hlt2:m<y.at_.length
    ·obtain⟨n,hn2⟩:∃ n,y.at_[m]?=A2 n:=⟨_,A7 hlt2⟩
     have hA2:=hA.out
     rw[IG hn2,Lh]at hA2
     obtain⟨pb,po,rfl,hpb,p0⟩:=Gy HA1.out hn2
     clear hn2 hA
     by_cases hq:AU.wrap (n - far)=start
     ·rw[decide_eq_true hq,JD]at hA2
      have HT:Hid (T.any (fun t=>Zw f s id start far t.1)=true):=J (by rw[← HE.out,HP.out,← hA2,JD])
      have t5:(wrap64 (n - far) == start)=true:=by rw[← IntWalk.i64_left];simpa using hq
      clear hA2 hq
      go_wp2
      go_ret
      exact⟨by rw[HT.out];rfl,A8 hB hw1⟩
     ·rw[decide_eq_false hq,GZ]at hA2
      have HN:=J hA2
      have t5:(wrap64 (n - far) == start)=false:=by rw[← IntWalk.i64_left];simpa using hq
      clear hA2 hq
      go_wp2
      go_round
      case rel=>exact⟨m+1,hlt2,by go_num,HN⟩
      case measure=>simp[Ad];omega
    ·obtain rfl:m=y.at_.length:=by omega
     have hA2:=hA.out
     rw[D6]at hA2
     have HN:Hid ((T.drop (k+1)).any (fun t=>Zw f s id start far t.1)=T.any (fun t=>Zw f s id start far t.1)):=J (by rw[← HE.out,HP.out,← hA2,List.any_nil,GZ])
     clear hA2 hA
     go_wp2
     go_roundw
     case rel=>exact⟨k+1,hlt,by go_num,HN,hw1⟩
     case measure=>simp[Ad];omega
  ·obtain rfl:k=T.length:=by omega
   have hN:=hE.out
   rw[D6]at hN
   have HN:=J hN;clear hN hE
   go_wp2
   go_ret
   exact⟨by rw[← HN.out];rfl,A8 hB hb⟩
theorem r20_Phrase_nil (T:List Cx) (a:Option Ao) (c:Nat) (f:Int) (wa:Option Ao) (wc:Nat) (w:A9) (h:Zq w a c T) :
  Ac A3 91 #[.agg #[.slice a T.length c],.int .i64 f,.slice wa 0 wc] w fun e w'=>∃ v,e=.returned v∧BO w' w.heap.size v []∧A6 w.heap.size w w':=by
 have hcap:=h.fa.cap
 obtain⟨W,hW⟩:∃ W,w.alloc (.cells #[.slice a T.length c] 24)=W:=⟨_,rfl⟩
 have hB:A6 w.heap.size w W:=by rw[← hW];exact Aa _ _
 have c0:W.cell? ⟨w.heap.size,0,A4⟩=A2 (.slice a T.length c):=by rw[← hW];simp
 rcases IM T.length with h0 | h0
 ·have d0:decide (0<T.length)=false:=by rw[h0];rfl
  clear h0
  go_enter Tryz.func91,Tryz.ntmps91
  go_wp2
  clear hW
  go_loop [7,8] (fun v i=>v=.slice A4 0 0∧i=.int .i64 0) (fun _ _=>0)
  case atStart=>exact⟨rfl,rfl⟩
  case round =>
   obtain⟨rfl,rfl⟩:=hrel
   go_wp2
   go_ret
   exact⟨.slice A4 0 0,rfl,AH _ _ _ _,hB⟩
 ·have d0:decide (0<T.length)=true:=by simpa using h0
  go_enter Tryz.func91,Tryz.ntmps91
  go_wp2
  clear hW
  go_loop [7,8] (fun v i=>v=.slice A4 0 0∧i=.int .i64 0) (fun _ _=>0)
  case atStart=>exact⟨rfl,rfl⟩
  case round =>
   obtain⟨rfl,rfl⟩:=hrel
   go_wp2
   go_ret
   exact⟨.slice A4 0 0,rfl,AH _ _ _ _,hB⟩
theorem r20_Phrase_some (T:List Cx) (a:Option Ao) (c:Nat) (f:Int) (s0:Hl) (l:List Hl) (wa:Option Ao) (wc:Nat) (w:A9) (h:Zq w a c T) (hn:T.length≤2500000000) (hat:∀ t∈T,t.1.at_.length≤9223372036854775807) (hw:SLA w wa wc ((s0::l).map fun x=>(⟨x.toArray⟩:ByteArray))) :
  Ac A3 91 #[.agg #[.slice a T.length c],.int .i64 f,.slice wa (s0::l).length wc] w fun e w'=>∃ v,e=.returned v∧BO w' w.heap.size v (Ca Bk (Ix.phrT (T.map (·.1)) f s0 l T))∧A6 w.heap.size w w':=by
 have hcap:=h.fa.cap
 obtain⟨ws,hws⟩:∃ ws,s0::l=ws:=⟨_,rfl⟩
 have hw0:0<ws.length:=by rw[← hws];simp
 have hd0:decide (0<ws.length)=true:=by simpa using hw0
 have HD:Hid (∀ x id n,H8 x f id n 1 (ws.drop 1)=H8 x f id n 1 l):=J (fun _ _ _=>by rw[← hws];rfl)
 rw[hws]at hw ⊢
 have hwcap:=hw.cap
 have hwmax:=hw.max
 rw[At]at hwcap
 unfold Au at hwmax
 obtain⟨W,hW⟩:∃ W,w.alloc (.cells #[.slice a T.length c] 24)=W:=⟨_,rfl⟩
 have hB:A6 w.heap.size w W:=by rw[← hW];exact Aa _ _
 have c0:W.cell? ⟨w.heap.size,0,A4⟩=A2 (.slice a T.length c):=by rw[← hW];simp
 obtain⟨wb,wo,rfl,hwb,hwat⟩:=(hw.below hB).row (by intro e;rw[List.map_eq_nil_iff]at e;rw[e]at hw0;simp at hw0)
 have w0:W.cell? ⟨wb,wo,A4⟩=A2 (.string ⟨s0.toArray⟩):=hwat 0 _ (by rw[← hws];rfl)
 have HWAT:Hid (∀ (j:Nat) x,ws[j]?=A2 x→W.cell? ⟨wb,wo+j,A4⟩=A2 (.string ⟨x.toArray⟩)):=J (fun j x hx=>hwat j _ (by rw[List.getElem?_map,hx];rfl))
 have HS:=J (h.below hB);clear h
 have HATL:=J hat
 have hbB:=hB.size
 obtain⟨X,hX⟩:∃ X,T.map (·.1)=X:=⟨_,rfl⟩
 rw[hX]
 have HX:=J hX
 clear hat hws hwat hX hw
 go_enter Tryz.func91,Tryz.ntmps91
 go_wp2
 clear hW
 go_loopw [7,8] (fun v i wr=>∃ (k:Nat),k≤T.length∧i=.int .i64 k∧BO wr W.heap.size v (Ca Bk (Ix.phrT X f s0 l (T.take k)))∧A6 W.heap.size W wr) (fun _ i _=>T.length - (Ad i).toNat)
 case atStart=>exact⟨0,Ae _,rfl,AH _ _ _ _,Ab _ _⟩
 case round =>
  obtain⟨k,hk,rfl,hown,hb⟩:=hrel
  have hbs:=hb.size
  replace c0:=A0 hb c0
  replace w0:=A0 hb w0
  by_cases hlt:k<T.length
  ·have hkd:decide (k<T.length)=true:=by simpa using hlt
   obtain⟨⟨y,ya,yc⟩,hy⟩:∃ y,T[k]?=A2 y:=⟨_,A7 hlt⟩
   obtain⟨b,o,rfl,hbl,g0,g1,g2,g3,hat⟩:=HS.out.get hy
   simp only at g0 g1 g2 g3 hat
   replace g0:=A0 hb g0
   replace g1:=A0 hb g1
   replace g2:=A0 hb g2
   replace g3:=A0 hb g3
   have HAT:=J (hat.below hb)
   clear hat
   have hpt:=Ix.phrT_take (x:=X) (f:=f) (s0:=s0) (l:=l) hy
   have hal:=HATL.out _ (Ag hy)
   simp only at hpt hal
   have hpl:=Ix.phrT_len (x:=X) (f:=f) (s0:=s0) (l:=l) (T:=T.take k) (fun t ht=>HATL.out t (Cb ht))
   rw[Az]at hpl
   obtain⟨L,hL⟩:∃ L,Ix.phrT X f s0 l (T.take k)=L:=⟨_,rfl⟩
   rw[hL]at hpt hpl hown
   have hpl3:Hid (∀ z∈L,∃ t∈T,t.1.id=z):=J (fun z hz=>Ix.phrT_mem (by rw[hL];exact hz))
   have hYm:Hid (∃ t∈T,t.1.id=y.id):=J ⟨_,Ag hy,rfl⟩
   have HPT:=J hpt
   clear hpt hpl hL hy
   obtain⟨W1,hW1⟩:∃ W1,wr.alloc (.cells #[.int .i64 y.fld,.string ⟨y.word.toArray⟩,.int .i64 y.id,.slice ya y.at_.length yc] 100)=W1:=⟨_,rfl⟩
   have hb1:A6 wr.heap.size wr W1:=by rw[← hW1];exact Aa _ _
   have z0:W1.cell? ⟨wr.heap.size,0,A4⟩=A2 (.int .i64 y.fld):=by rw[← hW1];simp
   have z1:W1.cell? ⟨wr.heap.size,1,A4⟩=A2 (.string ⟨y.word.toArray⟩):=by rw[← hW1];simp
   have z2:W1.cell? ⟨wr.heap.size,2,A4⟩=A2 (.int .i64 y.id):=by rw[← hW1];simp
   have z3:W1.cell? ⟨wr.heap.size,3,A4⟩=A2 (.slice ya y.at_.length yc):=by rw[← hW1];simp
   have w1:=A0 hb1 w0
   have HA1:=J (HAT.out.below hb1)
   have hpc:=HAT.out.cap
   have hpm:=HAT.out.max
   unfold Au at hpm
   have hw1:=A8 hb hb1
   have hown1:=own_below hown hb1
   by_cases hx0:¬ y.fld=f
   ·have t0:(y.fld != f)=true:=by simpa using hx0
    have HP:Hid (Ix.phrT X f s0 l (T.take (k+1))=L):=J (by rw[HPT.out,Ix.phrP,if_neg (by unfold DL;simp[hx0]),AD])
    clear hx0
    go_wp2
    clear hW1
    go_quiet (fail)
    have hbq:=Ba (Ab W1.heap.size W1) nq
    go_wp2
    go_roundw
    case rel=>exact⟨k+1,hlt,by go_num,by rw[HP.out];exact own_below hown1 hbq,A8 hw1 hbq⟩
    case measure=>simp[Ad];omega
   have t0:(y.fld != f)=false:=by simpa using hx0
   by_cases hx1:¬ y.word=s0
   ·have t1:(y.word == s0)=false:=by simpa using hx1
    have HP:Hid (Ix.phrT X f s0 l (T.take (k+1))=L):=J (by rw[HPT.out,Ix.phrP,if_neg (by unfold DL;simp[hx1]),AD])
    clear hx0 hx1
    go_wp2
    clear hW1
    go_quiet (fail)
    have hbq:=Ba (Ab W1.heap.size W1) nq
    go_wp2
    go_roundw
    case rel=>exact⟨k+1,hlt,by go_num,by rw[HP.out];exact own_below hown1 hbq,A8 hw1 hbq⟩
    case measure=>simp[Ad];omega
   have t1:(y.word == s0)=true:=by simpa using hx1
   have HP:Hid (Ix.phrT X f s0 l (T.take (k+1))=L++((y.at_.take y.at_.length).filter fun n=>H8 X f y.id n 1 l).map fun _=>y.id):=J (by
    rw[HPT.out,Ix.phrP,if_pos (by unfold DL;simp at hx0 hx1;simp[hx0,hx1]),Ap])
   clear hx0 hx1
   go_wp2
   clear hW1
   go_quiet (fail)
   have hbq:=Ba (Ab W1.heap.size W1) nq
   have hb2:=A8 hw1 hbq
   have hown2:=own_below hown1 hbq
   have HA2:=J (HA1.out.below hbq)
   have y2:=A0 hbq z2
   have y3:=A0 hbq z3
   have x0:=A0 hbq (A0 hb1 c0)
   generalize W1.drewN nq=w2 at *
   clear z0 z1 z2 z3 w1 HA1 hown1 hw1 hown t0 t1 g0 g1 g2 g3
   obtain⟨Z,hZ⟩:∃ Z,Z=wr.heap.size:=⟨_,rfl⟩
   rw[← hZ]at y2 y3
   rw[← hZ]
   clear hZ
   go_wp2
   go_loopw [7,10] (fun v i wr=>∃ (m:Nat),m≤y.at_.length∧i=.int .i64 m∧BO wr W.heap.size v (Ca Bk (L++((y.at_.take m).filter fun n=>H8 X f y.id n 1 l).map fun _=>y.id))∧A6 w2.heap.size w2 wr) (fun _ i _=>y.at_.length - (Ad i).toNat)
   case atStart=>exact⟨0,Ae _,rfl,by rw[List.take_zero,List.filter_nil,List.map_nil,AD];exact hown2,Ab _ _⟩
   case round =>
    obtain⟨m,hm,rfl,hown3,hb3⟩:=hrel
    have hb3s:=hb3.size
    replace y2:=A0 hb3 y2
    replace y3:=A0 hb3 y3
    replace x0:=A0 hb3 x0
    by_cases hlt2:m<y.at_.length
    ·obtain⟨n,hn2⟩:∃ n,y.at_[m]?=A2 n:=⟨_,A7 hlt2⟩
     have hft:=Ix.filter_take (p:=fun n=>H8 X f y.id n 1 l) (id:=y.id) hn2
     obtain⟨A,hA⟩:∃ A,L++((y.at_.take m).filter fun n=>H8 X f y.id n 1 l).map (fun _=>y.id)=A:=⟨_,rfl⟩
     have hAl:(Ca Bk A).length≤T.length:=Ix.puts_sub fun z hz=>by
      rw[← hA,AZ]at hz
      rcases hz with hz | hz
      ·exact hpl3.out z hz
      ·obtain⟨_,_,rfl⟩:=B3.1 hz
       exact hYm.out
     have HFT:Hid (L++((y.at_.take (m+1)).filter fun n=>H8 X f y.id n 1 l).map (fun _=>y.id)=A++(if H8 X f y.id n 1 l=true then [y.id] else [])):=J (by rw[hft,← B0,hA])
     rw[hA]at hown3
     clear hft hA
     obtain⟨pb,po,rfl,hpb,p0⟩:=Gy HA2.out hn2
     replace p0:=A0 hb3 p0
     clear hn2
     obtain⟨wn,hwn⟩:∃ wn,wn=wr:=⟨_,rfl⟩
     subst hwn
     have hm0:(0:Int)≤(m:Int):=by omega
     have hmn:(m:Int)<(y.at_.length:Int):=by omega
     have HF1:Hid (H8 X f y.id n 1 (ws.drop 1)=H8 X f y.id n 1 l):=J (HD.out X y.id n)
     go_wp2
     go_loopw [11,12] (fun al j wr=>∃ (q:Nat) (d:Bool),1≤q∧q≤ws.length∧j=.int .i64 q∧al=.bool d∧Hid ((d&&H8 X f y.id n q (ws.drop q))=H8 X f y.id n 1 l)∧A6 wn.heap.size wn wr) (fun _ j _=>ws.length - (Ad j).toNat)
     case atStart=>exact⟨1,true,An _,hw0,by go_num,rfl,J (by rw[J8];exact HF1.out),Ab _ _⟩
     case round =>
      obtain⟨q,d,hq1,hql,rfl,rfl,hE,hb4⟩:=hrel
      have hb4s:=hb4.size
      replace y2:=A0 hb4 y2
      replace y3:=A0 hb4 y3
      replace x0:=A0 hb4 x0
      replace p0:=A0 hb4 p0
      have hown4:=own_below hown3 hb4
      have hb5:=A8 hb3 hb4
      by_cases hlt3:q<ws.length
      ·have hqd:decide (q<ws.length)=true:=by simpa using hlt3
       cases d with
       | true =>
        obtain⟨s,hs⟩:∃ s,ws[q]?=A2 s:=⟨_,A7 hlt3⟩
        have wq:=A0 hb5 (A0 hb2 (HWAT.out q s hs))
        have hE2:=hE.out
        rw[IG hs,Ix.folF_cons,J8]at hE2
        have HE2:=J hE2
        have hq0:(0:Int)≤(q:Int):=by omega
        have hqn:(q:Int)<(ws.length:Int):=by omega
        clear hE2 hE hs
        go_wp2
        go_still_tail 14,(by kernel_rfl)
        change wpList _ _ _ _ _ wr.drew
        have hbq2:=(Ab wr.heap.size wr).drew
        have CA:Hid (∀ w',A6 wr.heap.size wr w'→Ac A3 155 #[.agg #[.slice (A2 ⟨b,o,A4⟩) T.length c],.int .i64 f,.string ⟨s.toArray⟩,.int .i64 y.id,.int .i64 n,.int .i64 q] w' fun e w''=>e=.returned (.bool (Ix.at_ X f s y.id n q))∧A6 w'.heap.size w' w''):=J (fun w' hb'=>by
         have h9:=r20_at_c T (A2 ⟨b,o,A4⟩) c f s y.id n q w' (((HS.out.below hb2).below hb5).below hb') (by omega)
         rw[HX.out]at h9
         exact h9)
        generalize wr.drew=wq2 at hbq2 ⊢
        go_wp2_with (go_at_call 155;((with_reducible refine (CA.out _ hbq2).mono ?_);rintro e w5 ⟨rfl,hb6⟩))
        go_roundw
        case rel=>exact⟨q+1,_,by omega,hlt3,by go_num,rfl,HE2,A8 hb4 (A8 hbq2 hb6)⟩
        case measure=>simp[Ad];omega
       | false =>
        have hE2:=hE.out
        rw[Bool.false_and]at hE2
        have HA9:Hid (L++((y.at_.take (m+1)).filter fun n=>H8 X f y.id n 1 l).map (fun _=>y.id)=A):=J (by rw[HFT.out,← hE2,if_neg (by decide),AD])
        clear hE2 hE
        go_wp2
        go_roundw
        case rel=>exact⟨m+1,hlt2,by go_num,by rw[HA9.out];exact hown4,hb5⟩
        case measure=>simp[Ad];omega
      ·have hqd:decide (q<ws.length)=false:=by simpa using hlt3
       obtain rfl:q=ws.length:=by omega
       have hE2:=hE.out
       rw[D6,H8,Bool.and_true]at hE2
       cases d with
       | true =>
        have HA9:Hid (L++((y.at_.take (m+1)).filter fun n=>H8 X f y.id n 1 l).map (fun _=>y.id)=A++[y.id]):=J (by rw[HFT.out,← hE2,if_pos rfl])
        have hpu:=hAl
        obtain⟨P,hP2⟩:∃ P,Ca Bk A=P:=⟨_,rfl⟩
        have HPU:Hid (Ca Bk (A++[y.id])=DO Bk P y.id):=J (by rw[Ix.puts_snoc,hP2])
        rw[hP2]at hown4 hpu
        obtain⟨oa,oc,rfl,hio,_⟩:=BW hown4 rfl
        have HIO:=J hio
        clear hE2 hE hP2 hio
        go_wp2_with (go_at_call 154;((with_reducible refine (r20_insert_c P y.id oa oc _ HIO.out (by omega)).mono ?_);rintro e w6 ⟨v6,rfl,hown6,hb6⟩))
        have hWs:=hb2.size
        have hWs2:=hb5.size
        go_roundw
        case rel=>exact⟨m+1,hlt2,by go_num,by rw[HA9.out,HPU.out];exact EJ hown6 (by omega),A8 hb5 hb6⟩
        case measure=>simp[Ad];omega
       | false =>
        have HA9:Hid (L++((y.at_.take (m+1)).filter fun n=>H8 X f y.id n 1 l).map (fun _=>y.id)=A):=J (by rw[HFT.out,← hE2,if_neg (by decide),AD])
        clear hE2 hE
        go_wp2
        go_roundw
        case rel=>exact⟨m+1,hlt2,by go_num,by rw[HA9.out];exact hown4,hb5⟩
        case measure=>simp[Ad];omega
    ·obtain rfl:m=y.at_.length:=by omega
     rw[← HP.out]at hown3
     go_wp2
     go_roundw
     case rel=>exact⟨k+1,hlt,by go_num,hown3,A8 hb2 hb3⟩
     case measure=>simp[Ad];omega
  ·have hkd:decide (k<T.length)=false:=by simpa using hlt
   obtain rfl:k=T.length:=by omega
   rw[Ap]at hown
   go_wp2
   go_ret
   exact⟨_,rfl,EJ hown hbB,A8 hB hb⟩
theorem r20_Phrase_c (T:List Cx) (a:Option Ao) (c:Nat) (f:Int) (ws:List Hl) (wa:Option Ao) (wc:Nat) (w:A9) (h:Zq w a c T) (hn:T.length≤2500000000) (hat:∀ t∈T,t.1.at_.length≤9223372036854775807) (hw:SLA w wa wc (ws.map fun x=>(⟨x.toArray⟩:ByteArray))) :
  Ac A3 91 #[.agg #[.slice a T.length c],.int .i64 f,.slice wa ws.length wc] w fun e w'=>∃ v,e=.returned v∧BO w' w.heap.size v (Ix.phrase (T.map (·.1)) f ws)∧A6 w.heap.size w w':=by
 cases ws with
 | nil=>exact r20_Phrase_nil T a c f wa wc w h
 | cons s0 l =>
  unfold Ix.phrase
  rw[Ix.phr_T]
  exact r20_Phrase_some T a c f s0 l wa wc w h hn hat hw
end Go.Proofs.YtlakomilichhnaaGreatDoor
