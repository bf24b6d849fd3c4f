/- Texts of this seat's, what the claim needs of them. -/
import Derived.Test.YtlakomilichhnaaGreatDoorYEOj
import Derived.Test.YtlakomilichhnaaGreatDoorZOm
namespace Go.Proofs.YtlakomilichhnaaGreatDoor
set_option maxHeartbeats 1600000
set_option maxRecDepth 100000
open Go.RowKit
open Cp renaming ltI→Bk,put→DO
open Ending renaming returned→Eh
open Go renaming maxLen→Au,wpList_append_own→Ci
open Lib renaming hid→J
open List renaming getElem?_eq_none→Ez,mem_map→B3
open Option renaming none→A4,some→A2
open Proofs.Tryz renaming underlying35→Bl
open Tx renaming cell_one_at→DB,newb→Aa
open Value renaming int→B7,oneCell'→AT
open World renaming ownsRow_lit→Fs
namespace Cs
theorem put_scan {α:Type} [DecidableEq α] (lt:α→α→Bool) (x:α):∀ (xs:List α) (k:Nat),k≤xs.length→(∀ j,j<k→∀ y,xs[j]?=A2 y→lt y x=true)→(∀ y,xs[k]?=A2 y→lt y x=false)→DO lt xs x=if xs[k]?=A2 x then xs else xs.take k++x::xs.drop k
 | [],k,hk,_,_=>by simp[DO]
 | y::r,0,_,_,h2=>by
  have h3:lt y x=false:=h2 y rfl
  unfold DO
  rw[h3]
  by_cases hyx:y=x
  ·simp[hyx]
  ·simp[hyx]
 | y::r,k+1,hk,h1,h2=>by
  have h3:lt y x=true:=h1 0 (by omega) y rfl
  have ih:=put_scan lt x r k (by simpa using hk) (fun j hj z hz=>h1 (j+1) (by omega) z (by simpa using hz)) (fun z hz=>h2 z (by simpa using hz))
  unfold DO
  rw[if_pos h3,ih]
  by_cases hx:r[k]?=A2 x
  ·simp[hx]
  ·simp[hx]
end Cs
theorem info_i64s:(Tryz.prog.info? 3).map (fun i=>(i.zero,i.size,i.bytes))=A2 (A2 (.int .i64 0),1,8):=by kernel_rfl
theorem r22_Put_c (xs:List Int) (b o c:Nat) (n:Int) (w:World) (h:Cs.LA (B7 .i64) w b o c xs) (hlen:xs.length≤1000000) :
  Calls Tryz.prog 39 #[.slice (A2 ⟨b,o,A4⟩) xs.length c,.int .i64 n] w fun e w'=>∃ b' o' c',e=.returned (.slice (A2 ⟨b',o',A4⟩) (DO Bk xs n).length c')∧Cs.LA (B7 .i64) w' b' o' c' (DO Bk xs n)∧(b'=b∨w.heap.size≤b')∧Below w.heap.size w w':=by
 obtain⟨i0,hi0,hz0,hz1,hz2⟩:=info_parts info_i64s
 have hc:=h.cap
 have hm:=h.max
 have hml:Au=9223372036854775807:=rfl
 go_enter Tryz.func39,Tryz.ntmps39
 go_wp2
 go_loopw [5] (fun i wr=>∃ (k:Nat),k≤xs.length∧i=.int .i64 k∧Hid (∀ j,j<k→∀ y,xs[j]?=A2 y→Bk y n=true)∧wr=w) (fun i _=>xs.length - (intOf i).toNat)
 case atStart=>exact⟨0,Nat.zero_le _,rfl,J (fun j hj=>absurd hj (by omega)),rfl⟩
 case round =>
  obtain⟨k,hk,rfl,hE,rfl⟩:=hrel
  have hsc:=fun h2=>Cs.put_scan Bk n xs k hk hE.out h2
  by_cases hlt:k<xs.length
  ·obtain⟨y,hy⟩:∃ y,xs[k]?=A2 y:=⟨_,List.getElem?_eq_getElem hlt⟩
   have cy:=h.at_ k y hy
   by_cases hyn:y<n
   ·have hE2:Hid (∀ j,j<k+1→∀ y,xs[j]?=A2 y→Bk y n=true):=J (fun j hj z hz=>by
     rcases Nat.lt_or_ge j k with h1 | h1
     ·exact hE.out j h1 z hz
     ·obtain rfl:j=k:=by omega
      rw[hy]at hz;injection hz with hz;subst hz
      simpa [Bk] using hyn)
    clear hy hsc
    go_wp2
    go_roundw
    case rel=>exact⟨k+1,by omega,by go_num,hE2,trivial⟩
    case measure=>simp[intOf];omega
   ·have hp:=hsc (fun z hz=>by rw[hy]at hz;injection hz with hz;subst hz;simpa [Bk] using hyn)
    by_cases hye:y=n
    ·rw[if_pos (by rw[hy,hye])]at hp
     have HP:=J hp;clear hp hsc hy
     go_wp2
     go_ret
     rw[HP.out]
     exact⟨b,o,c,rfl,h,.inl rfl,Below.refl _ _⟩
    ·rw[if_neg (by rw[hy];intro h9;injection h9 with h9;exact hye h9)]at hp
     have HP:=J hp;clear hp hsc hy
     have hkc:(k:Int)≤(c:Int):=by omega
     have hkl:(k:Int)≤(xs.length:Int):=by omega
     have hlen1:((xs.take k).map (B7 .i64)).length=k*1:=by first | (simp;done) | (simp;omega)
     have hlen3:((xs.drop k).map (B7 .i64)).length=(xs.length - k)*1:=by simp
     have hone:∀ l:List Int,∀ u∈l.map (B7 .i64),u.oneCell'=true:=fun l u hu=>by
      obtain⟨x,_,rfl⟩:=B3.1 hu
      rfl
     have HL1:=J hlen1;clear hlen1
     have HL3:=J hlen3;clear hlen3
     have HONE:=J hone;clear hone
     go_wp2_with (first
      |(at_builtin;refine Ci _ rfl _ _ 35 rfl wr.heap.size 3 i0 (.int .i64 0) 1 8 Bl hi0 hz0 hz1 hz2 rfl (by decide) _ 0 [] rfl (Fs (base:=wr.heap.size) (e:=3) (size:=1) wr #[] 0 (by simp) (by unfold Au;omega) rfl) ⟨b,o,A4⟩ k _ ((xs.take k).map (B7 .i64)) rfl HL1.out (h.cellsT (Aa _ _) k) (HONE.out _) (by unfold Au;omega) (by omega) (by simp) ?_;intro v1 w1 hown1 hg1 hnil1;have hb1:Below wr.heap.size wr w1:=(Aa wr _).grown hg1 (by simp) (fun j hj=>by cases hj;exact Nat.le_refl _))
      |(at_builtin;refine Ci _ rfl _ _ 35 rfl wr.heap.size 3 i0 (.int .i64 0) 1 8 Bl hi0 hz0 hz1 hz2 rfl (by decide) _ (0+k) _ rfl (hown1.alloc _) ⟨_,0,A4⟩ 1 1 [.int .i64 n] rfl rfl (DB _ _ (by first | rfl | simp) _ _) (by simp[AT]) (by unfold Au;omega) (by omega) (by have:=hb1.size;simp;omega) ?_;intro v2 w2 hown2 hg2 hnil2;have hb2:Below wr.heap.size wr w2:=(hb1.alloc hb1.size _).grown hg2 (by have:=hb1.size;simp;omega) (fun j hj=>(hown1.lt j hj).1))
      |(at_builtin;refine Ci _ rfl _ _ 35 rfl wr.heap.size 3 i0 (.int .i64 0) 1 8 Bl hi0 hz0 hz1 hz2 rfl (by decide) _ (0+k+1) _ rfl hown2 ⟨b,o+k,A4⟩ (xs.length - k) _ ((xs.drop k).map (B7 .i64)) rfl HL3.out (h.cellsD hb2 k) (HONE.out _) (by unfold Au;omega) (by omega) hb2.size ?_;intro v3 w3 hown3 hg3 hnil3;have hb3:Below wr.heap.size wr w3:=hb2.grown hg3 hb2.size (fun j hj=>(hown2.lt j hj).1)))
     rcases hown3.2 with⟨h0,_⟩ | ⟨vb,vc,cur,rfl,_⟩
     ·exact absurd (hnil3.1 h0).1 (fun e=>by have:=(hnil2.1 e).2;omega)
     ·go_ret
      have hll:(DO Bk xs n).length=0+k+1+(xs.length - k):=by rw[HP.out];simp;omega
      have hvl:(DO Bk xs n).map (B7 .i64)=[]++(xs.take k).map (B7 .i64)++[.int .i64 n]++(xs.drop k).map (B7 .i64):=by rw[HP.out];simp
      rw[← hvl]at hown3
      refine⟨vb,0,vc,congrArg (fun m=>Eh (.slice (A2 ⟨vb,0,A4⟩) m vc)) hll.symm,Cs.LA.of_own hown3 hll.symm,.inr (hown3.lt vb rfl).1,hb3⟩
  ·obtain rfl:k=xs.length:=by omega
   have hp:=hsc (fun z hz=>by rw[Ez (by omega)]at hz;cases hz)
   rw[if_neg (by rw[Ez (by omega)];simp)]at hp
   have HP:=J hp;clear hp hsc
   by_cases hcc:c=xs.length
   ·subst hcc
    have hkc:(xs.length:Int)≤(xs.length:Int):=by omega
    have hkl0:(xs.length:Int)≤(xs.length:Int):=by omega
    have hlen1:((xs.take xs.length).map (B7 .i64)).length=xs.length*1:=by first | (simp;done) | (simp;omega)
    have hlen3:((xs.drop xs.length).map (B7 .i64)).length=(xs.length - xs.length)*1:=by simp
    have hone:∀ l:List Int,∀ u∈l.map (B7 .i64),u.oneCell'=true:=fun l u hu=>by
     obtain⟨x,_,rfl⟩:=B3.1 hu
     rfl
    have HL1:=J hlen1;clear hlen1
    clear hlen3 hkl0
    have HONE:=J hone;clear hone
    go_wp2_with (first
     |(at_builtin;refine Ci _ rfl _ _ 35 rfl wr.heap.size 3 i0 (.int .i64 0) 1 8 Bl hi0 hz0 hz1 hz2 rfl (by decide) _ 0 [] rfl (Fs (base:=wr.heap.size) (e:=3) (size:=1) wr #[] 0 (by simp) (by unfold Au;omega) rfl) ⟨b,o,A4⟩ xs.length _ ((xs.take xs.length).map (B7 .i64)) rfl HL1.out (h.cellsT (Aa _ _) xs.length) (HONE.out _) (by unfold Au;omega) (by omega) (by simp) ?_;intro v1 w1 hown1 hg1 hnil1;have hb1:Below wr.heap.size wr w1:=(Aa wr _).grown hg1 (by simp) (fun j hj=>by cases hj;exact Nat.le_refl _))
     |(at_builtin;refine Ci _ rfl _ _ 35 rfl wr.heap.size 3 i0 (.int .i64 0) 1 8 Bl hi0 hz0 hz1 hz2 rfl (by decide) _ (0+xs.length) _ rfl (hown1.alloc _) ⟨_,0,A4⟩ 1 1 [.int .i64 n] rfl rfl (DB _ _ (by first | rfl | simp) _ _) (by simp[AT]) (by unfold Au;omega) (by omega) (by have:=hb1.size;simp;omega) ?_;intro v2 w2 hown2 hg2 hnil2;have hb2:Below wr.heap.size wr w2:=(hb1.alloc hb1.size _).grown hg2 (by have:=hb1.size;simp;omega) (fun j hj=>(hown1.lt j hj).1))
     |(at_builtin;refine Ci _ rfl _ _ 35 rfl wr.heap.size 3 i0 (.int .i64 0) 1 8 Bl hi0 hz0 hz1 hz2 rfl (by decide) _ (0+xs.length+1) _ rfl hown2 ⟨b,o,A4⟩ 0 _ [] rfl rfl (fun j u hj=>by simp at hj) (fun u hu=>by simp at hu) (by unfold Au;omega) (by omega) hb2.size ?_;intro v3 w3 hown3 hg3 hnil3;have hb3:Below wr.heap.size wr w3:=hb2.grown hg3 hb2.size (fun j hj=>(hown2.lt j hj).1)))
    rcases hown3.2 with⟨h0,_⟩ | ⟨vb,vc,cur,rfl,_⟩
    ·exact absurd (hnil3.1 h0).1 (fun e=>by have:=(hnil2.1 e).2;omega)
    ·go_ret
     have hll:(DO Bk xs n).length=0+xs.length+1+0:=by rw[HP.out];first | (simp;done) | (simp;omega)
     have hvl:(DO Bk xs n).map (B7 .i64)=[]++(xs.take xs.length).map (B7 .i64)++[.int .i64 n]++[]:=by rw[HP.out];simp
     rw[← hvl]at hown3
     refine⟨vb,0,vc,congrArg (fun m=>Eh (.slice (A2 ⟨vb,0,A4⟩) m vc)) hll.symm,Cs.LA.of_own hown3 hll.symm,.inr (hown3.lt vb rfl).1,hb3⟩
   ·have hcl:(xs.length:Int)<(c:Int):=by omega
    have hcl2:xs.length<c:=by omega
    clear hcc
    have hkc:(xs.length:Int)≤(c:Int):=by omega
    have hkl0:(xs.length:Int)≤(xs.length:Int):=by omega
    have hlen1:((xs.take xs.length).map (B7 .i64)).length=xs.length*1:=by first | (simp;done) | (simp;omega)
    have hlen3:((xs.drop xs.length).map (B7 .i64)).length=(xs.length - xs.length)*1:=by simp
    have hone:∀ l:List Int,∀ u∈l.map (B7 .i64),u.oneCell'=true:=fun l u hu=>by
     obtain⟨x,_,rfl⟩:=B3.1 hu
     rfl
    have HL1:=J hlen1;clear hlen1
    clear hlen3 hkl0
    have HONE:=J hone;clear hone
    go_wp2_with (first
     |(at_builtin;refine Ci _ rfl _ _ 35 rfl wr.heap.size 3 i0 (.int .i64 0) 1 8 Bl hi0 hz0 hz1 hz2 rfl (by decide) _ 0 [] rfl (Fs (base:=wr.heap.size) (e:=3) (size:=1) wr #[] 0 (by simp) (by unfold Au;omega) rfl) ⟨b,o,A4⟩ xs.length _ ((xs.take xs.length).map (B7 .i64)) rfl HL1.out (h.cellsT (Aa _ _) xs.length) (HONE.out _) (by unfold Au;omega) (by omega) (by simp) ?_;intro v1 w1 hown1 hg1 hnil1;have hb1:Below wr.heap.size wr w1:=(Aa wr _).grown hg1 (by simp) (fun j hj=>by cases hj;exact Nat.le_refl _))
     |(at_builtin;refine Ci _ rfl _ _ 35 rfl wr.heap.size 3 i0 (.int .i64 0) 1 8 Bl hi0 hz0 hz1 hz2 rfl (by decide) _ (0+xs.length) _ rfl (hown1.alloc _) ⟨_,0,A4⟩ 1 1 [.int .i64 n] rfl rfl (DB _ _ (by first | rfl | simp) _ _) (by simp[AT]) (by unfold Au;omega) (by omega) (by have:=hb1.size;simp;omega) ?_;intro v2 w2 hown2 hg2 hnil2;have hb2:Below wr.heap.size wr w2:=(hb1.alloc hb1.size _).grown hg2 (by have:=hb1.size;simp;omega) (fun j hj=>(hown1.lt j hj).1))
     |(at_builtin;refine Ci _ rfl _ _ 35 rfl wr.heap.size 3 i0 (.int .i64 0) 1 8 Bl hi0 hz0 hz1 hz2 rfl (by decide) _ (0+xs.length+1) _ rfl hown2 ⟨b,o+xs.length,A4⟩ 0 _ [] rfl rfl (fun j u hj=>by simp at hj) (fun u hu=>by simp at hu) (by unfold Au;omega) (by omega) hb2.size ?_;intro v3 w3 hown3 hg3 hnil3;have hb3:Below wr.heap.size wr w3:=hb2.grown hg3 hb2.size (fun j hj=>(hown2.lt j hj).1)))
    rcases hown3.2 with⟨h0,_⟩ | ⟨vb,vc,cur,rfl,_⟩
    ·exact absurd (hnil3.1 h0).1 (fun e=>by have:=(hnil2.1 e).2;omega)
    ·go_ret
     have hll:(DO Bk xs n).length=0+xs.length+1+0:=by rw[HP.out];first | (simp;done) | (simp;omega)
     have hvl:(DO Bk xs n).map (B7 .i64)=[]++(xs.take xs.length).map (B7 .i64)++[.int .i64 n]++[]:=by rw[HP.out];simp
     rw[← hvl]at hown3
     refine⟨vb,0,vc,congrArg (fun m=>Eh (.slice (A2 ⟨vb,0,A4⟩) m vc)) hll.symm,Cs.LA.of_own hown3 hll.symm,.inr (hown3.lt vb rfl).1,hb3⟩
end Go.Proofs.YtlakomilichhnaaGreatDoor
