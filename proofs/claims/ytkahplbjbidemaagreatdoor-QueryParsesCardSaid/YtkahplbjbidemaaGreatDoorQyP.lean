/- Searches, plain: their nodes, levels and errors, their equality and their text. -/
import Derived.Test.YtkahplbjbidemaaGreatDoorWdA
import Derived.Test.YtkahplbjbidemaaGreatDoorNmA
namespace Go.Proofs.YtkahplbjbidemaaGreatDoor
set_option maxRecDepth 100000

namespace Qr
abbrev By := List UInt8
/-- A search. -/
inductive Qy where
  | mk (op fld : Int) (ws : List ByteArray) (a b : Int) (ks : List Qy)
namespace Qy
def op : Qy → Int | mk o _ _ _ _ _ => o
def fld : Qy → Int | mk _ f _ _ _ _ => f
def ws : Qy → List ByteArray | mk _ _ w _ _ _ => w
def a : Qy → Int | mk _ _ _ a _ _ => a
def b : Qy → Int | mk _ _ _ _ b _ => b
def ks : Qy → List Qy | mk _ _ _ _ _ k => k
end Qy
theorem Qy.ind {P : Qy → Prop} (h : ∀ o f ws a b ks, (∀ k ∈ ks, P k) → P (.mk o f ws a b ks)) : ∀ q, P q
  | .mk o f ws a b ks => h o f ws a b ks fun k _hk => Qy.ind h k
termination_by q => SizeOf.sizeOf q
decreasing_by have := List.sizeOf_lt_of_mem _hk; simp only [Qy.mk.sizeOf_spec]; omega

mutual
def nodes : Qy → Nat | .mk _ _ _ _ _ ks => 1 + nodesL ks
def nodesL : List Qy → Nat | [] => 0 | k :: r => nodes k + nodesL r
end
mutual
def depth : Qy → Nat | .mk _ _ _ _ _ ks => depthL ks + 1
def depthL : List Qy → Nat | [] => 0 | k :: r => max (depth k) (depthL r)
end
theorem nodesL_app : ∀ (l m : List Qy), nodesL (l ++ m) = nodesL l + nodesL m
  | [], m => by simp [nodesL]
  | k :: r, m => by rw [List.cons_append, nodesL, nodesL, nodesL_app r m]; omega
theorem depthL_app : ∀ (l m : List Qy), depthL (l ++ m) = max (depthL l) (depthL m)
  | [], m => by simp [depthL]
  | k :: r, m => by rw [List.cons_append, depthL, depthL, depthL_app r m]; omega
theorem take_snoc {α : Type} {l : List α} {k : Nat} {x : α} (h : l[k]? = some x) : l.take (k + 1) = l.take k ++ [x] := by
  rw [List.take_add_one, h]; rfl
theorem nodes_pos : ∀ q, 1 ≤ nodes q | .mk _ _ _ _ _ _ => by unfold nodes; omega
theorem depth_nodes : ∀ q, depth q ≤ nodes q := by
  intro q
  induction q using Qy.ind with
  | h o f ws a b ks ih =>
    have : ∀ l : List Qy, (∀ k ∈ l, depth k ≤ nodes k) → depthL l ≤ nodesL l := by
      intro l
      induction l with
      | nil => intro _; simp [depthL, nodesL]
      | cons k r ih2 => intro h; have h1 := h k (by simp); have h2 := ih2 fun x hx => h x (by simp [hx]); simp only [depthL, nodesL]; omega
    have := this ks ih
    simp only [depth, nodes]
    omega
theorem nodes_kid {k : Qy} {ks : List Qy} (h : k ∈ ks) : nodes k ≤ nodesL ks := by
  induction ks with
  | nil => simp at h
  | cons x r ih =>
    rw [List.mem_cons] at h
    simp only [nodesL]
    rcases h with rfl | h
    · omega
    · have := ih h; omega
theorem ks_nodes (ks : List Qy) : ks.length ≤ nodesL ks := by
  induction ks with
  | nil => simp
  | cons x r ih => have := nodes_pos x; simp only [nodesL, List.length_cons]; omega

/-! the errors: 2 range, 3 form, 4 long -/
def isWord (s : ByteArray) : Bool := Tx.valid s.data.toList && (Tx.words s.data.toList == [s.data.toList])
def termE (o f : Int) (ws : List ByteArray) (a b : Int) (n : Nat) : Int :=
  if ws.length < 1 ∨ (o ≠ 3 ∧ 1 < ws.length) ∨ a ≠ 0 ∨ b ≠ 0 ∨ 0 < n then 3 else if ws.all isWord = false then 3 else if 8 < ws.length then 4 else if f < 0 ∨ 4 < f then 2 else 0
def yearsE (f : Int) (ws : List ByteArray) (a b : Int) (n : Nat) : Int :=
  if f ≠ 0 ∨ 0 < ws.length ∨ 0 < n then 3 else if a < 1 ∨ b < a ∨ 2199 < b then 2 else 0
def kidsE (o f : Int) (ws : List ByteArray) (a b : Int) (ks : List Qy) : Int :=
  if f ≠ 0 ∨ a ≠ 0 ∨ b ≠ 0 ∨ 0 < ws.length ∨ ks.length < 2 ∨ (o = 7 ∧ 2 < ks.length) then 3 else if o = 7 then 0 else if ks.any (fun k => decide (k.op = o)) = true then 3 else if 8 < ks.length then 4 else 0
def nodeE : Qy → Int
  | .mk o f ws a b ks => if o = 1 ∨ o = 2 ∨ o = 3 then termE o f ws a b ks.length else if o = 4 then yearsE f ws a b ks.length else if o = 5 ∨ o = 6 ∨ o = 7 then kidsE o f ws a b ks else 3
mutual
def treeE : Qy → Int | .mk o f ws a b ks => treeL (nodeE (.mk o f ws a b ks)) ks
def treeL : Int → List Qy → Int | e, [] => e | e, k :: r => if e = 0 then treeL (treeE k) r else e
end
theorem treeL_bad {e : Int} (h : e ≠ 0) : ∀ l, treeL e l = e
  | [] => by simp [treeL]
  | k :: r => by simp [treeL, h]
theorem treeL_app : ∀ (l m : List Qy) (e : Int), treeL e (l ++ m) = treeL (treeL e l) m
  | [], m, e => by simp [treeL]
  | k :: r, m, e => by
    by_cases h : e = 0
    · subst h
      rw [List.cons_append, treeL, if_pos rfl, treeL_app r m, treeL, if_pos rfl]
    · rw [treeL_bad h, treeL_bad h, treeL_bad h]
def rightE (q : Qy) : Int := if 64 < nodes q ∨ 8 < depth q then 4 else treeE q

/-! the text -/
def fieldT (f : Int) : By := if f = 0 then [] else if f = 1 then [116, 105, 58] else if f = 2 then [97, 117, 58] else if f = 3 then [115, 117, 58] else if f = 4 then [110, 117, 58] else []
def sepT (o : Int) : By := if o = 5 then [32, 65, 78, 68, 32] else if o = 6 then [32, 79, 82, 32] else [32, 78, 79, 84, 32]
def bys (l : List ByteArray) : List By := l.map (·.data.toList)
mutual
def text : Qy → By
  | .mk o f ws a b ks =>
    if o = 1 then fieldT f ++ (bys ws).headD []
    else if o = 2 then fieldT f ++ ((bys ws).headD [] ++ [42])
    else if o = 3 then fieldT f ++ ([34] ++ Go.Lib.join (bys ws) [32] ++ [34])
    else if o = 4 then [121, 101, 97, 114, 58] ++ Go.Lib.itoa a ++ [45] ++ Go.Lib.itoa b
    else Go.Lib.join (texts ks) (sepT o)
def texts : List Qy → List By
  | [] => []
  | .mk o f ws a b ks :: r => (if 5 ≤ o then [40] ++ text (.mk o f ws a b ks) ++ [41] else text (.mk o f ws a b ks)) :: texts r
end
def parT (q : Qy) : By := if 5 ≤ q.op then [40] ++ text q ++ [41] else text q
theorem texts_eq : ∀ l, texts l = l.map parT
  | [] => by simp [texts]
  | .mk o f ws a b ks :: r => by rw [texts, texts_eq r]; rfl
theorem text_eq (o f : Int) (ws : List ByteArray) (a b : Int) (ks : List Qy) : text (.mk o f ws a b ks) =
    if o = 1 then fieldT f ++ (bys ws).headD []
    else if o = 2 then fieldT f ++ ((bys ws).headD [] ++ [42])
    else if o = 3 then fieldT f ++ ([34] ++ Go.Lib.join (bys ws) [32] ++ [34])
    else if o = 4 then [121, 101, 97, 114, 58] ++ Go.Lib.itoa a ++ [45] ++ Go.Lib.itoa b
    else Go.Lib.join (ks.map parT) (sepT o) := by rw [text, texts_eq]
end Qr
end Go.Proofs.YtkahplbjbidemaaGreatDoor
