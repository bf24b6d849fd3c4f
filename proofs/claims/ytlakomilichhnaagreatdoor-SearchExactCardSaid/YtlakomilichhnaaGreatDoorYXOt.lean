/- Texts of this seat's, what the claim needs of them. -/
import Derived.Test.YtlakomilichhnaaGreatDoorZOt
namespace Go.Proofs.YtlakomilichhnaaGreatDoor
set_option maxHeartbeats 2000000
set_option maxRecDepth 100000
open Go.RowKit
namespace Tx
open Go.Lib
theorem rdec_width3 (l:List UInt8):(rdec l).2≤3:=by
 unfold rdec rdecN
 repeat' split
 all_goals (simp only;omega)
variable {σ : Type}
theorem rdec_at (s:ByteArray) (i:Nat):rdec (s.data.toList.drop i)=rdecN (s.size - i) (s.data.toList.getD i 0).toNat (s.data.toList.getD (i+1) 0).toNat (s.data.toList.getD (i+2) 0).toNat:=by
 unfold rdec
 rw[List.length_drop,Go.Lib.getD_dropU,Go.Lib.getD_dropU,Go.Lib.getD_dropU,Nat.add_zero,Go.Lib.size_eq]
theorem rdec_parts (s:ByteArray) (i:Nat) (hi:i<s.size):∃ a b c:Nat,rdec (s.data.toList.drop i)=rdecN (s.size - i) a b c∧a=(s[i]'hi).toNat∧(∀ h:i+1<s.size,b=(s[i+1]'h).toNat)∧(∀ h:i+2<s.size,c=(s[i+2]'h).toNat)∧a<256∧b<256∧c<256 :=
 ⟨_,_,_,rdec_at s i,by rw[getD_at s i hi],fun h=>by rw[getD_at s (i+1) h],fun h=>by rw[getD_at s (i+2) h],UInt8.toNat_lt _,UInt8.toNat_lt _,UInt8.toNat_lt _⟩
theorem ret2 {a b:Int}{r:Nat × Nat}{c d:Nat} (hr:r=(c,d)) (h1:a=(c:Int)) (h2:b=(d:Int)):Ending.returned (.tuple #[.int .i64 a,.int .i64 b])=Ending.returned (.tuple #[.int .i64 r.1,.int .i64 r.2]):=by rw[hr,h1,h2]
theorem rdecN_1 {n a b c:Nat} (h:32≤a∧a<127):rdecN n a b c=(a,1):=by unfold rdecN;rw[if_pos h]
theorem rdecN_2 {n a b c:Nat} (h:194≤a∧a<224∧1<n∧128≤b∧b<192) (h2:160≤(a - 192)*64+b - 128):rdecN n a b c=((a - 192)*64+b - 128,2):=by unfold rdecN;rw[if_neg (by omega),if_pos h,if_pos h2]
theorem rdecN_3 {n a b c:Nat} (h:194≤a∧a<224∧1<n∧128≤b∧b<192) (h2:¬ 160≤(a - 192)*64+b - 128):rdecN n a b c=(0,0):=by unfold rdecN;rw[if_neg (by omega),if_pos h,if_neg h2]
theorem rdecN_4 {n a b c:Nat} (h:224≤a∧a<240∧2<n∧128≤b∧b<192∧128≤c∧c<192) (h2:2048≤(a - 224)*4096+(b - 128)*64+c - 128∧((a - 224)*4096+(b - 128)*64+c - 128<55296∨57343<(a - 224)*4096+(b - 128)*64+c - 128)):rdecN n a b c=((a - 224)*4096+(b - 128)*64+c - 128,3):=by unfold rdecN;rw[if_neg (by omega),if_neg (by omega),if_pos h,if_pos h2]
theorem rdecN_5 {n a b c:Nat} (h:224≤a∧a<240∧2<n∧128≤b∧b<192∧128≤c∧c<192) (h2:¬ (2048≤(a - 224)*4096+(b - 128)*64+c - 128∧((a - 224)*4096+(b - 128)*64+c - 128<55296∨57343<(a - 224)*4096+(b - 128)*64+c - 128))):rdecN n a b c=(0,0):=by unfold rdecN;rw[if_neg (by omega),if_neg (by omega),if_pos h,if_neg h2]
theorem rdecN_6 {n a b c:Nat} (h1:¬ (32≤a∧a<127)) (h2:¬ (194≤a∧a<224∧1<n∧128≤b∧b<192)) (h3:¬ (224≤a∧a<240∧2<n∧128≤b∧b<192∧128≤c∧c<192)):rdecN n a b c=(0,0):=by unfold rdecN;rw[if_neg h1,if_neg h2,if_neg h3]
end Tx
theorem r01_decode_c (s:ByteArray) (i:Nat) (w:World) (hi:i<s.size) (hs:s.size≤9223372036854775000) :
  Calls Tryz.prog 203 #[.string s,.int .i64 i] w fun e w'=>e=.returned (.tuple #[.int .i64 (Tx.rdec (s.data.toList.drop i)).1,.int .i64 (Tx.rdec (s.data.toList.drop i)).2])∧Below w.heap.size w w':=by
 have hb0:((s[i]'hi).toNat:Int)<256:=by have:=(s[i]'hi).toNat_lt;omega
 obtain⟨a,b,c,hr,h0,h1,h2,ha,hb,hc⟩:=Tx.rdec_parts s i hi
 have HR:=Lib.hid hr;clear hr
 have H0:=Lib.hid h0;clear h0
 have H1:=Lib.hid h1;clear h1
 have H2:=Lib.hid h2;clear h2
 go_enter Tryz.func203,Tryz.ntmps203
 go_wp2
 all_goals try
  go_quiet (fail)
  go_wp2
 all_goals
  go_ret2
  refine⟨?_,by first | exact Below.refl _ _ | exact Tx.below_drewN (Below.refl _ _) _⟩
  have h0:=H0.out
  have h1:=H1.out
  have h2:=H2.out
  try have g1:=h1 (by omega)
  try have g2:=h2 (by omega)
  clear h1 h2
  rw[HR.out]
 all_goals first
  | exact Tx.ret2 (Tx.rdecN_1 (by omega)) (by omega) (by omega)
  | exact Tx.ret2 (Tx.rdecN_6 (by omega) (by omega) (by omega)) (by omega) (by omega)
  | exact Tx.ret2 (Tx.rdecN_2 (by omega) (by omega)) (by omega) (by omega)
  | exact Tx.ret2 (Tx.rdecN_3 (by omega) (by omega)) (by omega) (by omega)
  | exact Tx.ret2 (Tx.rdecN_4 (by omega) (by omega)) (by omega) (by omega)
  | exact Tx.ret2 (Tx.rdecN_5 (by omega) (by omega)) (by omega) (by omega)
end Go.Proofs.YtlakomilichhnaaGreatDoor
