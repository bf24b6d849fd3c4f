/- Texts of this seat's, what the claim needs of them. -/
import Derived.Test.YtlakomilichhnaaGreatDoorZOm
import Derived.Test.YtlakomilichhnaaGreatDoorZOo
import Derived.Test.YtlakomilichhnaaGreatDoorZShelfB
import Derived.Sort.OwnSortedInts
import Derived.Lib.OwnBridge
import Derived.Lib.RowBridge
import Derived.Test.YtlakomilichhnaaGreatDoorZOy
namespace Go.Proofs.YtlakomilichhnaaGreatDoor.Qr
end Go.Proofs.YtlakomilichhnaaGreatDoor.Qr
namespace Go.Proofs.YtlakomilichhnaaGreatDoor.Rc
end Go.Proofs.YtlakomilichhnaaGreatDoor.Rc
namespace Go.Proofs.YtlakomilichhnaaGreatDoor
set_option maxRecDepth 100000
namespace Sr
open Rc hiding bys
open Qr
inductive Rq : Qy → Prop
 | term {o f : Int} {ws : List ByteArray} (h1 : o = 1 ∨ o = 2 ∨ o = 3) (h2 : 0 ≤ f ∧ f ≤ 4) (h3 : 1 ≤ ws.length ∧ ws.length ≤ 8) (h5 : o ≠ 3 → ws.length = 1) (h4 : ∀ x ∈ ws, isWord x = true) : Rq (.mk o f ws 0 0 [])
 | years {a b : Int} (h1 : 1 ≤ a ∧ a ≤ 2199) (h2 : 1 ≤ b ∧ b ≤ 2199) : Rq (.mk 4 0 [] a b [])
 | kids {o : Int} {ks : List Qy} (h1 : o = 5 ∨ o = 6 ∨ o = 7) (h2 : 2 ≤ ks.length ∧ ks.length ≤ 8) (h4 : o = 7 → ks.length = 2) (h3 : ∀ k ∈ ks, Rq k) : Rq (.mk o 0 [] 0 0 ks)
theorem treeL_nought : ∀ (l : List Qy) (e : Int), treeL e l = 0 → e = 0 ∧ ∀ k ∈ l, treeE k = 0
 | [], e, h => ⟨by simpa [treeL] using h, fun k hk => by simp at hk⟩
 | k :: r, e, h => by
  by_cases he : e = 0
  ·subst he
   rw [treeL, if_pos rfl] at h
   obtain ⟨h1, h2⟩ := treeL_nought r _ h
   refine ⟨rfl, fun x hx => ?_⟩
   rw [List.mem_cons] at hx
   rcases hx with rfl | hx
   ·exact h1
   ·exact h2 x hx
  ·rw [treeL_bad he] at h
   exact absurd h he
theorem rq_of : ∀ q, treeE q = 0 → Rq q := by
 refine Qy.ind ?_
 intro o f ws a b ks ih h
 rw [treeE] at h
 obtain ⟨h1, h2⟩ := treeL_nought ks _ h
 have hk := fun k hk => ih k hk (h2 k hk)
 simp only [nodeE] at h1
 split at h1
 ·rename_i ho
  unfold termE at h1
  repeat' split at h1
  all_goals first | (exfalso; omega) | skip
  rename_i c1 c2 _ _
  have e1 : a = 0 := by omega
  have e2 : b = 0 := by omega
  have e3 : ks = [] := List.eq_nil_of_length_eq_zero (by omega)
  subst e1 e2 e3
  have c3 : ws.all isWord = true := by simpa using c2
  exact .term ho (by omega) (by omega) (by omega) (List.all_eq_true.1 c3)
 ·split at h1
  ·rename_i _ ho
   subst ho
   unfold yearsE at h1
   repeat' split at h1
   all_goals first | (exfalso; omega) | skip
   have e1 : f = 0 := by omega
   have e2 : ws = [] := List.eq_nil_of_length_eq_zero (by omega)
   have e3 : ks = [] := List.eq_nil_of_length_eq_zero (by omega)
   subst e1 e2 e3
   exact .years (by omega) (by omega)
  ·split at h1
   ·rename_i ho
    unfold kidsE at h1
    have e1 : f = 0 ∧ a = 0 ∧ b = 0 ∧ ws.length = 0 ∧ (2 ≤ ks.length ∧ ks.length ≤ 8) ∧ (o = 7 → ks.length = 2) := by
     repeat' split at h1
     all_goals first | (exfalso; omega) | (refine ⟨by omega, by omega, by omega, by omega, by omega, by omega⟩)
    obtain ⟨rfl, rfl, rfl, e4, e5, e6⟩ := e1
    have e2 : ws = [] := List.eq_nil_of_length_eq_zero e4
    subst e2
    exact .kids ho e5 e6 hk
   ·exfalso; omega
theorem rq_right {q : Qy} (h : rightE q = 0) : Rq q := by
 unfold rightE at h
 split at h
 ·cases h
 ·exact rq_of q h
def Fd (l : List Rd) (P : Rd → Bool) (out : List Int) : Prop := ∀ n, n ∈ out ↔ ∃ r ∈ l, P r = true ∧ r.id = n
theorem Fd.congr {l : List Rd} {P Q : Rd → Bool} {out : List Int} (h : Fd l P out) (e : ∀ r ∈ l, P r = Q r) : Fd l Q out := fun n => by
 rw [h n]
 exact ⟨fun ⟨r, h1, h2, h3⟩ => ⟨r, h1, by rw [← e r h1]; exact h2, h3⟩, fun ⟨r, h1, h2, h3⟩ => ⟨r, h1, by rw [e r h1]; exact h2, h3⟩⟩
theorem Fd.mem {l : List Rd} (hd : Ix.Dist l) {P : Rd → Bool} {out : List Int} (h : Fd l P out) {r : Rd} (hr : r ∈ l) : decide (r.id ∈ out) = P r := by
 rw [Bool.eq_iff_iff, decide_eq_true_eq, h r.id]
 constructor
 ·rintro ⟨q, hq, hp, e⟩
  have := hd q hq r hr e
  subst this
  exact hp
 ·intro hp
  exact ⟨r, hr, hp, rfl⟩
theorem Fd.and {l : List Rd} (hd : Ix.Dist l) {P Q : Rd → Bool} {out fo : List Int} (h : Fd l P out) (g : Fd l Q fo) : Fd l (fun r => P r && Q r) (out.filter fun n => decide (n ∈ fo)) := fun n => by
 rw [List.mem_filter, h n]
 constructor
 ·rintro ⟨⟨r, hr, hp, rfl⟩, h2⟩
  rw [g.mem hd hr] at h2
  exact ⟨r, hr, by show (P r && Q r) = true; rw [hp, h2]; rfl, rfl⟩
 ·rintro ⟨r, hr, hp, rfl⟩
  rw [Bool.and_eq_true] at hp
  exact ⟨⟨r, hr, hp.1, rfl⟩, by rw [g.mem hd hr]; exact hp.2⟩
theorem Fd.not {l : List Rd} (hd : Ix.Dist l) {P Q : Rd → Bool} {out fo : List Int} (h : Fd l P out) (g : Fd l Q fo) : Fd l (fun r => P r && !Q r) (out.filter fun n => !decide (n ∈ fo)) := fun n => by
 rw [List.mem_filter, h n]
 constructor
 ·rintro ⟨⟨r, hr, hp, rfl⟩, h2⟩
  rw [g.mem hd hr] at h2
  exact ⟨r, hr, by show (P r && !Q r) = true; rw [hp]; exact h2, rfl⟩
 ·rintro ⟨r, hr, hp, rfl⟩
  rw [Bool.and_eq_true] at hp
  exact ⟨⟨r, hr, hp.1, rfl⟩, by rw [g.mem hd hr]; exact hp.2⟩
theorem Fd.or {l : List Rd} {P Q : Rd → Bool} {out fo : List Int} (h : Fd l P out) (g : Fd l Q fo) : Fd l (fun r => P r || Q r) (out ++ fo) := fun n => by
 rw [List.mem_append, h n, g n]
 constructor
 ·rintro (⟨r, hr, hp, e⟩ | ⟨r, hr, hp, e⟩)
  ·exact ⟨r, hr, by show (P r || Q r) = true; rw [hp]; rfl, e⟩
  ·exact ⟨r, hr, by show (P r || Q r) = true; rw [hp, Bool.or_true], e⟩
 ·rintro ⟨r, hr, hp, e⟩
  rw [Bool.or_eq_true] at hp
  rcases hp with hp | hp
  ·exact .inl ⟨r, hr, hp, e⟩
  ·exact .inr ⟨r, hr, hp, e⟩
theorem evalQ_fd (x : List Ix.Post) (l : List Rd) (q : Qy) : Fd l (fun r => ev (leafX x r) q) (evalQ x l q) := fun n => by
 unfold evalQ
 rw [Cp.puts_mem, List.mem_map]
 constructor
 ·rintro ⟨r, hr, e⟩
  obtain ⟨h1, h2⟩ := List.mem_filter.1 hr
  exact ⟨r, h1, h2, e⟩
 ·rintro ⟨r, hr, hp, e⟩
  exact ⟨r, List.mem_filter.2 ⟨hr, hp⟩, e⟩
theorem Fd.puts {x : List Ix.Post} {l : List Rd} {q : Qy} {out : List Int} (h : Fd l (fun r => ev (leafX x r) q) out) : Cp.puts Cp.ltI out = evalQ x l q := by
 unfold evalQ
 refine Cp.puts_same Cp.ordI fun n => ?_
 rw [h n, ← evalQ_fd x l q n]
 unfold evalQ
 rw [Cp.puts_mem]
theorem Fd.known (l : List Rd) (ids : List Int) : Fd l (fun r => decide (r.id ∈ ids)) (ids.filter fun n => decide (n ∈ l.map (·.id))) := fun n => by
 rw [List.mem_filter, decide_eq_true_eq, List.mem_map]
 constructor
 ·rintro ⟨h1, r, hr, rfl⟩
  exact ⟨r, hr, by simpa using h1, rfl⟩
 ·rintro ⟨r, hr, h1, rfl⟩
  exact ⟨by simpa using h1, r, hr, rfl⟩
theorem Fd.of_filter (l : List Rd) (P : Rd → Bool) : Fd l P ((l.filter P).map (·.id)) := fun n => by
 rw [List.mem_map]
 constructor
 ·rintro ⟨r, hr, e⟩
  obtain ⟨h1, h2⟩ := List.mem_filter.1 hr
  exact ⟨r, h1, h2, e⟩
 ·rintro ⟨r, hr, hp, e⟩
  exact ⟨r, List.mem_filter.2 ⟨hr, hp⟩, e⟩
theorem put_len {α : Type} [DecidableEq α] (lt : α → α → Bool) (x : α) : ∀ l : List α, (Cp.put lt l x).length ≤ l.length + 1
 | [] => Nat.le_refl _
 | y :: r => by
  unfold Cp.put
  split
  ·have := put_len lt x r
   simp only [List.length_cons]; omega
  ·split <;> simp
theorem puts_len {α : Type} [DecidableEq α] (lt : α → α → Bool) (l : List α) : (Cp.puts lt l).length ≤ l.length := by
 have h : ∀ (l acc : List α), (l.foldl (Cp.put lt) acc).length ≤ acc.length + l.length := by
  intro l
  induction l with
  | nil => intro acc; simp
  | cons x r ih =>
   intro acc
   have h1 := ih (Cp.put lt acc x)
   have h2 := put_len lt x acc
   simp only [List.foldl_cons, List.length_cons]
   omega
 have := h l []
 simpa [Cp.puts] using this
theorem evalQ_len (x : List Ix.Post) (l : List Rd) (q : Qy) : (evalQ x l q).length ≤ l.length := by
 unfold evalQ
 refine Nat.le_trans (puts_len _ _) ?_
 rw [List.length_map]
 exact List.length_filter_le _ _
end Sr
end Go.Proofs.YtlakomilichhnaaGreatDoor
namespace Go.Proofs.YtlakomilichhnaaGreatDoor
open Go.RowKit
set_option maxRecDepth 100000
section
variable {P : Program} (w : World)
theorem step_append_sl2 {ops : Array Oper} {o : Oper} {a : Act} {K : Act → World → Prop} {Q : Exit → Act → World → Prop} {E : Prop} (hgd : o.guard = none) (s x : Operand) (t : TypeId)
  (ho : o.op = .call { callee := .builtin .append, args := #[s, x], argTypes := #[t, t] })
  (base : Nat) (e : TypeId) (i : TypeInfo) (z : Value) (size bytes : Nat) (ht : P.underlying t = some (.slice e)) (hi : P.info? e = some i) (hz : i.zero = some z)
  (hsize : i.size = size) (hby : i.bytes = bytes) (hzs : z.cells.size = size) (hsz : 0 < size)
  (v : Value) (n : Nat) (xs : List Value) (hs : a.eval s = v) (hown : w.ownsRow base e size v n xs)
  (ao : Option Addr) (m c : Nat) (news : List Value) (hx : a.eval x = .slice ao m c) (hl : news.length = m * size) (hno : ao = none → m = 0) (hnews : ∀ ad, ao = some ad → ∀ j u, news[j]? = some u → w.cell? (ad.add j) = some u) (h1 : ∀ u ∈ news, u.oneCell' = true)
  (h63 : n + m ≤ maxLen) (hbytes : (n + m) * bytes ≤ 140737488355328) (hbase : base ≤ w.heap.size)
  (h : ∀ v' w', w'.ownsRow base e size v' (n + m) (xs ++ news) → w.grownBy w' v.ownBlock → (v'.ownBlock = v.ownBlock ∨ v'.ownBlock = some w.heap.size) → K (a.put o.dst v') w') :
  if Region.wanted o (yielded ops a.tmps) = true then Oper.wp P o a w K Q else E := by
 have hw : Region.wanted o (yielded ops a.tmps) = true := by simp [Region.wanted, hgd]
 rw [if_pos hw]
 cases ao with
 | none =>
  obtain rfl := hno rfl
  have hn : news = [] := List.eq_nil_of_length_eq_zero (by rw [hl]; omega)
  subst hn
  have hrun := run_append_none_any (P := P) (w := w) base t o.type e i size ht hi v n xs hown c
  unfold Oper.wp execOp
  simp only [ho, resolve, invoke, builtin, Sem.run_bind, Sem.run_pure, Result.andThen_ok, List.map_toArray, List.map_cons, List.map_nil, hs, hx, hrun]
  exact h v w (by simpa using hown) ⟨rfl, rfl, rfl, Nat.le_refl _, fun _ _ _ => rfl⟩ (.inl rfl)
 | some ad =>
  obtain ⟨v', w', hr, h2, h3, _, h5⟩ := run_append_own_at (P := P) w base t o.type e i z size bytes ht hi hz hsize hby hzs hsz v n xs hown ad m c news hl (hnews ad rfl) h1 h63 hbytes hbase
  unfold Oper.wp execOp
  simp only [ho, resolve, invoke, builtin, Sem.run_bind, Sem.run_pure, Result.andThen_ok, List.map_toArray, List.map_cons, List.map_nil, hs, hx, hr]
  exact h v' w' h2 h3 h5
end
namespace Ix
open Rc
structure BuX (w : World) (rs : List Rd) (wr : World) (k : Nat) (v : Value) (T : List PT) (n : Nat) : Prop where
 hb : Below w.heap.size w wr
 k0 : wr.heap[w.heap.size]? = some (.cells #[.slice none 0 0] 24 (0, 0))
 kx : wr.heap[w.heap.size + 1]? = some (.cells #[v] 24 (0, 0))
 bu : BuS wr (w.heap.size + 3) v T
 lo : ∀ t ∈ T, t.1.at_ ≠ [] → ∀ g, t.2.1 = some g → w.heap.size + 3 ≤ g.block
 map : T.map (·.1) = (chs rs k).flatMap posts
 nm : NMap wr (w.heap.size + 2) n (fun id => if id ∈ (chs rs k).map (·.id) then some 1 else none)
 hn : n ≤ k
 len : T.length ≤ 50000000 * k
theorem BuX.step {w wr w' : World} {rs : List Rd} {k n : Nat} {v : Value} {T : List PT} (h : BuX w rs wr k v T n) (hb : Below wr.heap.size wr w') : BuX w rs w' k v T n :=
 ⟨Tx.step h.hb hb, Tx.blk_later h.k0 hb, Tx.blk_later h.kx hb, h.bu.below hb, h.lo, h.map, h.nm.of_block (hb.block _ h.nm.lt), h.hn, h.len⟩
theorem BuX.skip {w wr : World} {rs : List Rd} {k n : Nat} {v : Value} {T : List PT} {r : Rd} (h : BuX w rs wr k v T n) (hr : rs[k]? = some r) (hc : r.id < 1 ∨ met rs k r = true) : BuX w rs wr (k + 1) v T n := by
 have e : chs rs (k + 1) = chs rs k := by rw [chs_succ hr, if_pos hc]
 have hl := h.len
 exact ⟨h.hb, h.k0, h.kx, h.bu, h.lo, by rw [e]; exact h.map, by rw [e]; exact h.nm, Nat.le_succ_of_le h.hn, Nat.le_trans hl (Nat.mul_le_mul_left _ (Nat.le_succ k))⟩
theorem BuX.size {w wr : World} {rs : List Rd} {k n : Nat} {v : Value} {T : List PT} (h : BuX w rs wr k v T n) : w.heap.size + 2 < wr.heap.size := h.nm.lt
theorem BuX.more {w wr wa w5 w7 : World} {rs : List Rd} {k n : Nat} {v v7 : Value} {T T5 : List PT} {r : Rd} (h : BuX w rs wr k v T n) (hr : rs[k]? = some r) (h1 : 1 ≤ r.id) (hm : met rs k r = false)
  (hna : NMap wa (w.heap.size + 2) (n + 1) (fun y => if y = r.id then some 1 else if y ∈ (chs rs k).map (·.id) then some 1 else none)) (hga : wr.grownBy wa (some (w.heap.size + 2)))
  (hb5 : Below wa.heap.size wa w5) (hat5 : Ats w5 T5) (hlo5 : ∀ t ∈ T5, ∀ g, t.2.1 = some g → wa.heap.size ≤ g.block) (hmap5 : T5.map (·.1) = posts r) (hl5 : T5.length ≤ 50000000)
  (hg7 : w5.grownBy w7 v.ownBlock) (hown7 : w7.ownsRow (w.heap.size + 3) 100 4 v7 (T.length + T5.length) (T.flatMap encP ++ T5.flatMap encP)) (hv7 : v7.ownBlock = v.ownBlock ∨ v7.ownBlock = some w5.heap.size) :
  BuX w rs (w7.setCell ⟨w.heap.size + 1, 0, none⟩ v7) (k + 1) v7 (T ++ T5) (n + 1) := by
 have hs := h.size
 have hsa := hga.size
 have e : chs rs (k + 1) = chs rs k ++ [r] := by rw [chs_succ hr, if_neg (by rintro (h9 | h9); omega; rw [hm] at h9; cases h9)]
 have hM : ∀ g, v.ownBlock = some g → g ≠ w.heap.size + 2 := fun g hg e9 => own_ne_nmap h.bu.own h.nm (by rw [hg, e9])
 -- the posts behind the map's writing
 have hbuA : BuS wa (w.heap.size + 3) v T := by
  refine ⟨h.bu.own.kept hga ?_, fun t ht => (h.bu.ats t ht).agree hga.size (fun hn g hg => hga.block _ ((h.bu.ats t ht).lt hn g hg) (fun e9 => ?_)), h.bu.sep⟩
  ·exact .inr (own_ne_nmap h.bu.own h.nm)
  ·have := h.lo t ht hn g hg
   injection e9 with e9
   omega
 have hbu7 := hbuA.app hb5 hat5 hlo5 hg7 hown7 hv7
 have hlo : ∀ t ∈ T ++ T5, t.1.at_ ≠ [] → ∀ g, t.2.1 = some g → w.heap.size + 3 ≤ g.block := fun t ht hn g hg => by
  rcases List.mem_append.1 ht with ht | ht
  ·exact h.lo t ht hn g hg
  ·have := hlo5 t ht g hg
   omega
 have hs5 := hb5.size
 have hs7 := hg7.size
 have hblk : ∀ j, j < wr.heap.size → j ≠ w.heap.size + 2 → some j ≠ v.ownBlock → w7.heap[j]? = wr.heap[j]? := fun j hj hjM hjv =>
  (hg7.block j (by omega) hjv).trans ((hb5.block j (by omega)).trans (hga.block j hj (fun e9 => hjM (by injection e9))))
 have hvlo : ∀ j, j < w.heap.size + 3 → some j ≠ v.ownBlock := fun j hj e9 => by
  have := (h.bu.own.lt j e9.symm).1
  omega
 have hset : ∀ j, j ≠ w.heap.size + 1 → (w7.setCell ⟨w.heap.size + 1, 0, none⟩ v7).heap[j]? = w7.heap[j]? := fun j hj => Below.heap_setCell w7 ⟨w.heap.size + 1, 0, none⟩ v7 j hj
 refine ⟨?_, ?_, ?_, ?_, hlo, ?_, ?_, Nat.succ_le_succ h.hn, ?_⟩
 ·have hb1 : Below w.heap.size w wa := h.hb.grown hga (by omega) (fun j hj => by injection hj with hj; omega)
  have hb2 : Below w.heap.size w w7 := (Tx.step hb1 hb5).grown hg7 (by omega) (fun j hj => by have := (h.bu.own.lt j hj).1; omega)
  exact hb2.setCell (by simp) _
 ·exact (hset _ (by omega)).trans ((hblk _ (by omega) (by omega) (hvlo _ (by omega))).trans h.k0)
 ·have h9 := (hblk (w.heap.size + 1) (by omega) (by omega) (hvlo _ (by omega))).trans h.kx
  simp [World.setCell, Array.getElem?_modify, h9]
 ·exact hbu7.kept (X := w.heap.size + 1) (by omega) (fun t ht hn g hg => by have := hlo t ht hn g hg; omega) hset (by rw [Br.size_set]; exact Nat.le_refl _)
 ·rw [List.map_append, h.map, hmap5, e, List.flatMap_append]
  simp
 ·rw [e]
  have hf : (fun id => if id ∈ (chs rs k ++ [r]).map (·.id) then some (1 : Int) else none) = (fun y => if y = r.id then some 1 else if y ∈ (chs rs k).map (·.id) then some 1 else none) := by
   funext y
   rw [List.map_append]
   by_cases hy : y = r.id
   ·rw [if_pos hy, if_pos (by rw [hy]; simp)]
   ·rw [if_neg hy]
    by_cases hy2 : y ∈ (chs rs k).map (·.id)
    ·rw [if_pos hy2, if_pos (List.mem_append_left _ hy2)]
    ·rw [if_neg hy2, if_neg (fun h9 => by
      rcases List.mem_append.1 h9 with h9 | h9
      ·exact hy2 h9
      ·simp at h9; exact hy h9)]
  rw [hf]
  refine hna.of_block ((hset _ (by omega)).trans ((hg7.block _ (by have := hna.lt; omega) (hvlo _ (by omega))).trans (hb5.block _ hna.lt)))
 ·rw [List.length_append]
  have := h.len
  omega
end Ix
set_option maxHeartbeats 6400000 in
theorem ix_Build_c (rs : List Rc.Rd) (a : Option Addr) (c : Nat) (w : World) (hG : G w) (h : Rc.RdA w a c rs) (hn : rs.length ≤ 50) (hM : ∀ r ∈ rs, Ix.Mod r.fields) (hV : ∀ r ∈ rs, ∀ f ∈ r.fields, Rc.Gd f) (hI : ∀ r ∈ rs, -9223372036854775808 ≤ r.id ∧ r.id ≤ 9223372036854775807) :
  Calls Tryz.prog 55 #[.slice a rs.length c] w fun e w' => (∃ a' c' T', e = .returned (.agg #[.slice a' (List.length T') c']) ∧ Ix.PsA w' a' c' T' ∧ T'.map (·.1) = Ix.build rs ∧ T'.length ≤ 2500000000 ∧ Below w.heap.size w w') := by
 obtain ⟨i0, hi0, hz0, hz1, hz2⟩ := info_parts info_post
 have HI := Lib.hid hi0; clear hi0
 have hcap := h.cap
 obtain ⟨W, hW⟩ : ∃ W, ((w.alloc (.cells #[.slice none 0 0] 24)).alloc (.cells #[.slice none 0 0] 24)).alloc (.map #[] 0) = W := ⟨_, rfl⟩
 have hS : Ix.BuX w rs W 0 (.slice none 0 0) [] 0 := by
  refine ⟨?_, ?_, ?_, ⟨World.ownsRow_nil _ _ _ _, (fun t ht => by cases ht), (fun t ht => by cases ht)⟩, (fun t ht => by cases ht), rfl, ?_, Nat.le_refl _, by simp⟩
  ·rw [← hW]; exact ((Tx.newb _ _).alloc (by simp) _).alloc (by simp; omega) _
  ·rw [← hW]; exact (hp_alloc_lt (by simp; omega) _).trans ((hp_alloc_lt (by simp) _).trans (heap_alloc_new w _))
  ·rw [← hW]; exact (hp_alloc_lt (by simp) _).trans (by simpa using heap_alloc_new (w.alloc (.cells #[.slice none 0 0] 24)) (.cells #[.slice none 0 0] 24))
  ·rw [← hW]; simpa [Ix.chs] using Ix.NMap.made ((w.alloc (.cells #[.slice none 0 0] 24)).alloc (.cells #[.slice none 0 0] 24))
 have hmm := @run_makeMap Tryz.prog
 go_enter Tryz.func55, Tryz.ntmps55
 go_wp2
 clear hmm hW
 go_loopw [10] (fun i wr => ∃ (k : Nat) (v : Value) (T : List Ix.PT) (n : Nat), k ≤ rs.length ∧ i = .int .i64 k ∧ Ix.BuX w rs wr k v T n) (fun i _ => rs.length - (intOf i).toNat)
 case atStart => exact ⟨0, _, [], 0, Nat.zero_le _, by go_num, hS⟩
 case round =>
  obtain ⟨k, v, T, n, hk, rfl, hS1⟩ := hrel
  have hss := hS1.size
  by_cases hlt : k < rs.length
  ·obtain ⟨r, hr⟩ : ∃ r, rs[k]? = some r := ⟨_, List.getElem?_eq_getElem hlt⟩
   have hrm := List.mem_of_getElem? hr
   obtain ⟨b, o, fa, fc, rfl, hbl, d0, d1, d2, d3, d4, hF⟩ := h.get hr
   have hF0 := hF
   replace d0 := cell_later hS1.hb d0
   replace d1 := cell_later hS1.hb d1
   replace d2 := cell_later hS1.hb d2
   replace d3 := cell_later hS1.hb d3
   replace d4 := cell_later hS1.hb d4
   obtain ⟨W1, hW1⟩ : ∃ W1, wr.alloc (.cells #[.int .i64 r.id, .int .i64 r.ver, .int .i64 r.kind, .string r.lang, .slice fa r.fields.length fc] 51) = W1 := ⟨_, rfl⟩
   have hb1 : Below wr.heap.size wr W1 := by rw [← hW1]; exact Tx.newb _ _
   have HKR : Hid (W1.heap[wr.heap.size]? = some (.cells #[.int .i64 r.id, .int .i64 r.ver, .int .i64 r.kind, .string r.lang, .slice fa r.fields.length fc] 51 (0, 0))) := Lib.hid (by rw [← hW1]; exact heap_alloc_new wr _)
   have z0 : W1.cell? ⟨wr.heap.size, 0, none⟩ = some (.int .i64 r.id) := (Tx.blk HKR.out).1 0
   have hS2 := hS1.step hb1
   have hwf : (Lit.int .i64 r.id).wf = true := WalkArith.wf_i64 (by have := hI r hrm; omega)
   clear hF
   by_cases hid : r.id < 1
   ·have hS9 := hS2.skip hr (.inl hid)
    have hd : ¬ 0 < r.id := by omega
    have hd2 : decide (0 < r.id) = false := by simp; omega
    clear hid hr
    go_wp2
    go_roundw
    case rel => exact ⟨k + 1, v, T, n, hlt, by go_num, hS9⟩
    case measure => simp [intOf]; omega
   ·have hd : 0 < r.id := by omega
    have hd2 : decide (0 < r.id) = true := by simp; omega
    cases hm : Ix.met rs k r with
    | true =>
     have hS9 := hS2.skip hr (.inr hm)
     have hrun := hS2.nm.look (b := r.id) (r := 1) (by rw [if_pos ((Ix.chs_met (by omega)).1 hm)]; rfl) hwf
     clear hr hm
     go_wp2
     go_roundw
     case rel => exact ⟨k + 1, v, T, n, hlt, by go_num, hS9⟩
     case measure => simp [intOf]; omega
    | false =>
     have hrun := hS2.nm.look (b := r.id) (r := 0) (by rw [if_neg (fun h9 => by rw [← Ix.chs_met (by omega), hm] at h9; cases h9)]; rfl) hwf
     have HM9 := Lib.hid hm
     have HR9 := Lib.hid hr
     have HS2 := Lib.hid hS2
     obtain ⟨va, vc, rfl, _⟩ := own_shape2 hS2.bu.own
     have HNM : Hid (n < maxLen) := Lib.hid (by have := hS2.hn; unfold maxLen; omega)
     have z1 : W1.cell? ⟨wr.heap.size, 1, none⟩ = some (.int .i64 r.ver) := (Tx.blk HKR.out).1 1
     have z2 : W1.cell? ⟨wr.heap.size, 2, none⟩ = some (.int .i64 r.kind) := (Tx.blk HKR.out).1 2
     have z3 : W1.cell? ⟨wr.heap.size, 3, none⟩ = some (.string r.lang) := (Tx.blk HKR.out).1 3
     have z4 : W1.cell? ⟨wr.heap.size, 4, none⟩ = some (.slice fa r.fields.length fc) := (Tx.blk HKR.out).1 4
     clear hm hr hS2
     go_wp2_with (at_mapUpdate; go_must (refine Ix.nmap_put HS2.out.nm HNM.out hwf rfl _ _ _ rfl rfl rfl rfl ?_); intro wa hma hga)
     have hsa := hga.size
     have h1s := hb1.size
     have HMa := Lib.hid hma
     have hRl : wr.heap.size < W1.heap.size := (Array.getElem?_eq_some_iff.1 HKR.out).1
     have hnR : some wr.heap.size ≠ some (w.heap.size + 2) := fun e9 => by injection e9 with e9; omega
     have hKRa : wa.heap[wr.heap.size]? = some (.cells #[.int .i64 r.id, .int .i64 r.ver, .int .i64 r.kind, .string r.lang, .slice fa r.fields.length fc] 51 (0, 0)) := (hga.block _ hRl hnR).trans HKR.out
     have y0 : wa.cell? ⟨wr.heap.size, 0, none⟩ = some (.int .i64 r.id) := (Tx.blk hKRa).1 0
     have y1 : wa.cell? ⟨wr.heap.size, 1, none⟩ = some (.int .i64 r.ver) := (Tx.blk hKRa).1 1
     have y2 : wa.cell? ⟨wr.heap.size, 2, none⟩ = some (.int .i64 r.kind) := (Tx.blk hKRa).1 2
     have y3 : wa.cell? ⟨wr.heap.size, 3, none⟩ = some (.string r.lang) := (Tx.blk hKRa).1 3
     have y4 : wa.cell? ⟨wr.heap.size, 4, none⟩ = some (.slice fa r.fields.length fc) := (Tx.blk hKRa).1 4
     have hKXa : wa.heap[w.heap.size + 1]? = some (.cells #[.slice va T.length vc] 24 (0, 0)) := (hga.block _ (by omega) (fun e9 => by injection e9 with e9; omega)).trans HS2.out.kx
     have x0 : wa.cell? ⟨w.heap.size + 1, 0, none⟩ = some (.slice va T.length vc) := (Tx.blk hKXa).1 0
     have hba : Below w.heap.size w wa := HS2.out.hb.grown hga (by omega) (fun j hj => by injection hj with hj; omega)
     have hFa : Rc.FldA wa fa fc r.fields := hF0.below hba
     have hownA : wa.ownsRow (w.heap.size + 3) 100 4 (.slice va T.length vc) T.length (T.flatMap Ix.encP) := HS2.out.bu.own.kept hga (.inr (Ix.own_ne_nmap HS2.out.bu.own HS2.out.nm))
     have HOA := Lib.hid hownA
     have HKXA := Lib.hid hKXa
     have hTl := HS2.out.len
     have hTl2 : T.length ≤ 2500000000 := Nat.le_trans hTl (by have : 50000000 * k ≤ 50000000 * 50 := Nat.mul_le_mul_left _ (by omega); omega)
     clear hownA hma hKXa hTl
     have CP : Hid (∀ w', Below wa.heap.size wa w' → Calls Tryz.prog 119 #[.agg #[.int .i64 r.id, .int .i64 r.ver, .int .i64 r.kind, .string r.lang, .slice fa r.fields.length fc]] w' fun e w'' => (∃ v T, e = .returned v ∧ Ix.OwnP w'' w'.heap.size v T ∧ Ix.Ats w'' T ∧ (∀ t ∈ T, ∀ g, t.2.1 = some g → w'.heap.size ≤ g.block) ∧ T.map (·.1) = Ix.posts r ∧ List.length T ≤ 50000000 ∧ Below w'.heap.size w' w'')) := Lib.hid (fun w' hb' => ix_posts_c r fa fc w' (hG.below (Tx.step hba hb')) (hFa.below hb') (hM r hrm) (hV r hrm))
     have hbq := (Below.refl wa.heap.size wa).drew
     have hq9 := hbq.size
     have hA1 : T.length + 50000000 ≤ maxLen := by unfold maxLen; omega
     go_region_law (first
      | (refine step_append_sl2 _ (by rfl) _ _ 22 (by rfl) (w.heap.size + 3) 100 i0 _ 4 56 Tryz.underlying22 HI.out hz0 hz1 hz2 (by rfl) (by decide) _ T.length _ (by rfl) HOA5.out a5 T5.length c5 (T5.flatMap Ix.encP) (by rfl) (Br.flat_len Ix.encP 4 Ix.encP_len T5) HP5.out.fa.none (HP5.out.fa.cells Ix.encP_len (by decide)) (Br.flat_one Ix.p_one T5) (by unfold maxLen; omega) (by omega) (by omega) ?_; intro v7 w7 hown7 hg7 hv7; obtain ⟨a7, c7, rfl, _⟩ := own_shape2 hown7; have HV7 := Lib.hid hv7; have HO7 := Lib.hid hown7; clear hv7 hown7; obtain ⟨x7c, x7f, x7l⟩ := Tx.blk ((hg7.block (w.heap.size + 1) (by omega) (fun e9 => by have := (HOA5.out.lt _ e9.symm).1; omega)).trans ((hb5.block _ (by omega)).trans HKXA.out)))
      | (go_simp; go_at_call 119; ((with_reducible refine (CP.out _ hbq).mono ?_); rintro e w5 ⟨v5, T5, rfl, hown5, hat5, hlo5, hmap5, hl5, hb5x⟩; have HMP := Lib.hid hmap5; have HAT5 := Lib.hid hat5; have HLO5 := Lib.hid hlo5; obtain ⟨a5, c5, rfl, hps5, _⟩ := Ix.OwnP.ps hown5 hat5; have HP5 := Lib.hid hps5; have hb5 := Tx.step hbq hb5x; have HOA5 := Lib.hid (own_below HOA.out hb5); have hs5 := hb5.size; have x5 := cell_later hb5 x0; clear hmap5 hat5 hlo5 hps5 hown5)))
     all_goals
      have hS9 := HS2.out.more HR9.out (by omega) HM9.out HMa.out hga hb5 HAT5.out (fun t ht g hg => by have := HLO5.out t ht g hg; omega) HMP.out hl5 hg7 HO7.out HV7.out
      go_wp2
      go_roundw
      case rel => exact ⟨k + 1, _, _, n + 1, hlt, by go_num, hS9⟩
      case measure => simp [intOf]; omega
  ·obtain rfl : k = rs.length := by omega
   obtain ⟨va, vc, rfl, _⟩ := own_shape2 hS1.bu.own
   obtain ⟨xc, xf, xl⟩ := Tx.blk hS1.kx
   obtain ⟨kc, kf, kl⟩ := Tx.blk hS1.k0
   have HS1 := Lib.hid hS1
   have hTl2 : T.length ≤ 2500000000 := Nat.le_trans hS1.len (by have : 50000000 * rs.length ≤ 50000000 * 50 := Nat.mul_le_mul_left _ (by omega); omega)
   have hvlo : ∀ j, j < w.heap.size + 3 → some j ≠ (Value.slice va T.length vc).ownBlock := fun j hj e9 => by
    have := (HS1.out.bu.own.lt j e9.symm).1
    omega
   have HVLO := Lib.hid hvlo
   clear hS1 hvlo
   go_wp2_with (go_at_call 120; ((with_reducible refine (ix_sorted_c HS1.out.bu.own (by omega)).mono ?_); rintro e w5 ⟨rfl, S, hperm, hpw, hownS, hg5⟩; have x5 := Tx.blk ((hg5.block (w.heap.size + 1) (by omega) (HVLO.out _ (by omega))).trans HS1.out.kx); have y5 := Tx.blk ((hg5.block w.heap.size (by omega) (HVLO.out _ (by omega))).trans HS1.out.k0); obtain ⟨x5c, x5f, x5l⟩ := x5; obtain ⟨y5c, y5f, y5l⟩ := y5; have HOS := Lib.hid hownS; have HPW := Lib.hid hpw; clear hownS hpw))
   have hl9 : S.length = T.length := hperm.length_eq
   have hBS := HS1.out.bu.sorted hperm hg5 HOS.out
   obtain ⟨a9, c9, e9, hps9, hlo9⟩ := Ix.OwnP.ps HOS.out hBS.ats
   injection e9 with e9a _ e9c
   subst e9a e9c
   have hb9 : Below w.heap.size w w5 := HS1.out.hb.grown hg5 (by omega) (fun j hj => by have := (HS1.out.bu.own.lt j hj).1; omega)
   have hmap9 : S.map (·.1) = Ix.build rs := Ix.build_sorted (by rw [← HS1.out.map]; exact hperm.map _) (by rw [List.pairwise_map]; exact HPW.out)
   have hfar : Ix.Far S va w.heap.size := ⟨fun _ g hg => by have := hlo9 g hg; omega, fun t ht hn g hg => by have := HS1.out.lo t (hperm.mem_iff.1 ht) hn g hg; omega⟩
   refine bodyPost_ret (v := .agg #[.slice va T.length vc]) (by simp [results, Tryz.results55, go_sem, y5c]) rfl ⟨va, vc, S, by rw [hl9], ?_, hmap9, by omega, ?_⟩
   ·exact hps9.set hfar _ _
   ·exact hb9.setCell (by simp) _
end Go.Proofs.YtlakomilichhnaaGreatDoor
namespace Go.Proofs.YtlakomilichhnaaGreatDoor
open Go.RowKit
set_option maxRecDepth 100000
section
open Go.Sort
theorem grownBy_put {α : Type} [Inhabited α] {enc : α → Value} {w : World} {g q : Nat} {d : Array α} : w.grownBy (putRow enc (Sort.ahead w q) g 0 d) (some g) := by
 refine ⟨rfl, rfl, rfl, by simp [putRow, mapBlock, Sort.ahead], fun k hk hne => ?_⟩
 have : g ≠ k := fun e => hne (by rw [e])
 simp [putRow, mapBlock, Sort.ahead, Array.getElem?_modify, this]
theorem SortI_c {v : Value} {bs : List Int} {B : Nat} {w : World} (h : w.ownsRow B 3 1 v bs.length (bs.map (Value.int .i64))) (hl : bs.length ≤ 1000000000000) :
  Calls Tryz.prog 87 #[v] w fun e w' => e = .returned (.tuple #[]) ∧ w'.ownsRow B 3 1 v bs.length ((bs.mergeSort fun x y => decide (x ≤ y)).map (Value.int .i64)) ∧ w.grownBy w' v.ownBlock := by
 rcases h.2 with ⟨rfl, h0⟩ | ⟨g, cap, cur, rfl, hbase, hb, h1, h2, h3, h4⟩
 ·refine (Tryz.slices_Sort_int_none none 0 w).mono fun e w' ⟨he, hw⟩ => ?_
  subst hw
  have hnil := List.eq_nil_of_length_eq_zero h0
  subst hnil
  exact ⟨he, by rw [List.mergeSort_nil]; exact World.ownsRow_nil _ _ _ _, ⟨rfl, rfl, rfl, Nat.le_refl _, fun _ _ _ => rfl⟩⟩
 ·refine (Tryz.slices_Sort_int g 0 cap bs w (holds_of_blockI hb (by simpa using h4)) (Array.getElem?_eq_some_iff.1 hb).1 (by omega)).mono fun e w' ⟨he, n, os, hw⟩ => ?_
  subst hw
  exact ⟨he, ownsRow_sortedI (by simp) hbase hb h1 h2 h3, grownBy_sortedI _⟩
theorem CompactI_c {v : Value} {xs : List Int} {B : Nat} {w : World} (h : w.ownsRow B 3 1 v xs.length (xs.map (Value.int .i64))) (hl : xs.length ≤ 1000000000000) :
  Calls Tryz.prog 88 #[v] w fun e w' => ∃ va vc, e = .returned (.slice va (Lib.compact xs).length vc) ∧ w'.ownsRow B 3 1 (.slice va (Lib.compact xs).length vc) (Lib.compact xs).length ((Lib.compact xs).map (Value.int .i64)) ∧ (Value.slice va (Lib.compact xs).length vc).ownBlock = v.ownBlock ∧ w.grownBy w' v.ownBlock := by
 by_cases hnil : v = .slice none 0 0
 ·subst hnil
  have h0 : xs = [] := by
   rcases h.2 with ⟨_, h0⟩ | ⟨g, cap, cur, e0, _⟩
   ·exact List.eq_nil_of_length_eq_zero h0
   ·cases e0
  subst h0
  refine (Tryz.slices_Compact_int_empty none 0 w).mono fun e w' ⟨he, hw⟩ => ?_
  subst hw
  exact ⟨none, 0, he, World.ownsRow_nil _ _ _ _, rfl, ⟨rfl, rfl, rfl, Nat.le_refl _, fun _ _ _ => rfl⟩⟩
 ·obtain ⟨g, cap, rfl, hbg, hgl, hncap, hcm, hlen, hH⟩ := Lib.holds_of_ownsRow (enc := Value.int .i64) h hnil
  have hle := Lib.compact_length_le xs
  refine (Tryz.slices_Compact_int g 0 cap xs w hH (by omega) hncap).mono fun e w' ⟨he, q, hw⟩ => ?_
  subst hw
  have hc := Lib.ownsRow_putRow (enc := Value.int .i64) (q := q) (k := (Lib.compact xs).length) (ys := Lib.compact xs ++ List.replicate (xs.length - (Lib.compact xs).length) 0) h (by simp; omega) hle
  rw [List.take_left] at hc
  exact ⟨_, cap, he, hc, rfl, grownBy_put⟩
namespace Cp
theorem sorted_pairI (bs : List Int) : (bs.mergeSort fun x y => decide (x ≤ y)).Pairwise fun x y => ltI y x = false := by
 have h := List.pairwise_mergeSort (le := fun x y : Int => decide (x ≤ y)) (fun a b c h1 h2 => by simp at *; omega) (fun a b => by simp; omega) bs
 exact h.imp fun h => by unfold ltI; simp at *; omega
theorem compact_sortedI (xs : List Int) : Lib.compact (xs.mergeSort fun x y => decide (x ≤ y)) = puts ltI xs := compact_puts ordI (List.mergeSort_perm _ _) (sorted_pairI xs)
end Cp
end
set_option maxHeartbeats 1600000 in
theorem ixw_clo (y : Ix.Post) (ya : Option Addr) (yc p1 p2 : Nat) (f : Int) (s : Ix.By) (w : World) (k1 : w.cell? ⟨p1, 0, none⟩ = some (.int .i64 f)) (k2 : w.cell? ⟨p2, 0, none⟩ = some (.string ⟨s.toArray⟩)) (_l1 : p1 < w.heap.size) (_l2 : p2 < w.heap.size) :
  Calls Tryz.prog 149 #[.agg #[.int .i64 y.fld, .string ⟨y.word.toArray⟩, .int .i64 y.id, .slice ya y.at_.length yc], .pointer (some ⟨p1, 0, none⟩), .pointer (some ⟨p2, 0, none⟩)] w fun e w' => e = .returned (.bool (Ix.wordP f s y)) ∧ Below w.heap.size w w' := by
 obtain ⟨W, hW⟩ : ∃ W, w.alloc (.cells #[.int .i64 y.fld, .string ⟨y.word.toArray⟩, .int .i64 y.id, .slice ya y.at_.length yc] 100) = W := ⟨_, rfl⟩
 have hB : Below w.heap.size w W := by rw [← hW]; exact Tx.newb _ _
 have z0 : W.cell? ⟨w.heap.size, 0, none⟩ = some (.int .i64 y.fld) := by rw [← hW]; simp
 have z1 : W.cell? ⟨w.heap.size, 1, none⟩ = some (.string ⟨y.word.toArray⟩) := by rw [← hW]; simp
 have k1' := cell_later hB k1
 have k2' := cell_later hB k2
 clear k1 k2
 by_cases h1 : y.fld = f
 ·have t0 : (y.fld == f) = true := by simpa using h1
  have HR : Hid (Ix.wordP f s y = (y.word == s)) := Lib.hid (by unfold Ix.wordP; simp [h1])
  clear h1
  go_enter Tryz.func149, Tryz.ntmps149
  go_wp2
  go_ret
  exact ⟨by rw [HR.out]; rfl, hB⟩
 ·have t0 : (y.fld == f) = false := by simpa using h1
  have HR : Hid (Ix.wordP f s y = false) := Lib.hid (by unfold Ix.wordP; simp [h1])
  clear h1
  go_enter Tryz.func149, Tryz.ntmps149
  go_wp2
  go_ret
  exact ⟨by rw [HR.out]; rfl, hB⟩
set_option maxHeartbeats 1600000 in
theorem ixp_clo (y : Ix.Post) (ya : Option Addr) (yc p1 p2 : Nat) (f : Int) (s : Ix.By) (w : World) (k1 : w.cell? ⟨p1, 0, none⟩ = some (.string ⟨s.toArray⟩)) (k2 : w.cell? ⟨p2, 0, none⟩ = some (.int .i64 f)) (_l1 : p1 < w.heap.size) (_l2 : p2 < w.heap.size) :
  Calls Tryz.prog 150 #[.agg #[.int .i64 y.fld, .string ⟨y.word.toArray⟩, .int .i64 y.id, .slice ya y.at_.length yc], .pointer (some ⟨p1, 0, none⟩), .pointer (some ⟨p2, 0, none⟩)] w fun e w' => e = .returned (.bool (Ix.prefP f s y)) ∧ Below w.heap.size w w' := by
 obtain ⟨W, hW⟩ : ∃ W, w.alloc (.cells #[.int .i64 y.fld, .string ⟨y.word.toArray⟩, .int .i64 y.id, .slice ya y.at_.length yc] 100) = W := ⟨_, rfl⟩
 have hB : Below w.heap.size w W := by rw [← hW]; exact Tx.newb _ _
 have z0 : W.cell? ⟨w.heap.size, 0, none⟩ = some (.int .i64 y.fld) := by rw [← hW]; simp
 have z1 : W.cell? ⟨w.heap.size, 1, none⟩ = some (.string ⟨y.word.toArray⟩) := by rw [← hW]; simp
 have k1' := cell_later hB k1
 have k2' := cell_later hB k2
 clear k1 k2
 by_cases h0 : s = []
 ·have t : (s == []) = true := by simpa using h0
  have HR : Hid (Ix.prefP f s y = false) := Lib.hid (by unfold Ix.prefP; simp [h0])
  clear h0
  go_enter Tryz.func150, Tryz.ntmps150
  go_wp2
  go_ret
  exact ⟨by rw [HR.out]; rfl, hB⟩
 have t : (s == []) = false := by simpa using h0
 by_cases h1 : y.fld = f
 ·have t0 : (y.fld == f) = true := by simpa using h1
  have hbp : Ix.begP s y.word = Lib.hasPrefix y.word s := by
   unfold Ix.begP Lib.hasPrefix
   rw [Bool.eq_iff_iff, beq_iff_eq, List.isPrefixOf_iff_prefix, List.prefix_iff_eq_take]
   exact eq_comm
  have HR : Hid (Ix.prefP f s y = Lib.hasPrefix y.word s) := Lib.hid (by unfold Ix.prefP; rw [hbp]; simp [h0, h1])
  have HC : Hid (∀ w', Calls Tryz.prog 65 #[.string ⟨y.word.toArray⟩, .string ⟨s.toArray⟩] w' fun e w'' => e = .returned (.bool (Lib.hasPrefix y.word s)) ∧ w'' = w') := Lib.hid (fun w' => by have h9 := Tryz.strings_HasPrefix ⟨y.word.toArray⟩ ⟨s.toArray⟩ w'; simpa using h9)
  obtain ⟨q, hq⟩ : ∃ q, Lib.hasPrefix y.word s = q := ⟨_, rfl⟩
  rw [hq] at HR HC
  clear h0 h1 hbp hq
  go_enter Tryz.func150, Tryz.ntmps150
  go_wp2_with (go_at_call 65; ((with_reducible refine (HC.out _).mono ?_); rintro e w1 ⟨rfl, rfl⟩))
  go_ret
  exact ⟨by rw [HR.out]; rfl, hB⟩
 ·have t0 : (y.fld == f) = false := by simpa using h1
  have HR : Hid (Ix.prefP f s y = false) := Lib.hid (by unfold Ix.prefP; simp [h1])
  clear h0 h1
  go_enter Tryz.func150, Tryz.ntmps150
  go_wp2
  go_ret
  exact ⟨by rw [HR.out]; rfl, hB⟩
set_option maxHeartbeats 3200000 in
theorem ixw_records (T : List Ix.PT) (a : Option Addr) (c p1 p2 : Nat) (f : Int) (s : Ix.By) (w : World) (h : Ix.PsA w a c T) (hn : T.length ≤ 5000000000) (k1 : w.cell? ⟨p1, 0, none⟩ = some (.int .i64 f)) (k2 : w.cell? ⟨p2, 0, none⟩ = some (.string ⟨s.toArray⟩)) (l1 : p1 < w.heap.size) (l2 : p2 < w.heap.size) :
  Calls Tryz.prog 148 #[.agg #[.slice a T.length c], .func (.func 149) #[] #[.pointer (some ⟨p1, 0, none⟩), .pointer (some ⟨p2, 0, none⟩)]] w fun e w' => ∃ v, e = .returned v ∧ Ix.OwnI w' w.heap.size v (Cp.puts Cp.ltI (Ix.idsT (Ix.wordP f s) T)) ∧ Below w.heap.size w w' := by
 obtain ⟨i0, hi0, hz0, hz1, hz2⟩ := info_parts info_int
 have HI := Lib.hid hi0; clear hi0
 have hcap := h.fa.cap
 obtain ⟨W, hW⟩ : ∃ W, w.alloc (.cells #[.slice a T.length c] 24) = W := ⟨_, rfl⟩
 have hB : Below w.heap.size w W := by rw [← hW]; exact Tx.newb _ _
 have c0 : W.cell? ⟨w.heap.size, 0, none⟩ = some (.slice a T.length c) := by rw [← hW]; simp
 have HS := Lib.hid (h.below hB); clear h
 have hbB := hB.size
 have HK1 := Lib.hid (cell_later hB k1)
 have HK2 := Lib.hid (cell_later hB k2)
 clear k1 k2
 go_enter Tryz.func148, Tryz.ntmps148
 go_wp2
 clear hW
 go_loopw [5, 11] (fun v i wr => ∃ (k : Nat), k ≤ T.length ∧ i = .int .i64 k ∧ Ix.OwnI wr W.heap.size v (Ix.idsT (Ix.wordP f s) (T.take k)) ∧ Below W.heap.size W wr) (fun _ i _ => T.length - (intOf i).toNat)
 case atStart => exact ⟨0, Nat.zero_le _, by go_num, World.ownsRow_nil _ _ _ _, Below.refl _ _⟩
 case round =>
  obtain ⟨k, hk, rfl, hown, hb⟩ := hrel
  have hbs := hb.size
  by_cases hlt : k < T.length
  ·obtain ⟨⟨y, ya, yc⟩, hy⟩ : ∃ y, T[k]? = some y := ⟨_, List.getElem?_eq_getElem hlt⟩
   have hit := Ix.idsT_take (p := Ix.wordP f s) hy
   have hil := Ix.idsT_len (Ix.wordP f s) (T.take k)
   rw [List.length_take] at hil
   obtain ⟨b, o, rfl, hbl, g0, g1, g2, g3, _⟩ := HS.out.get hy
   simp only at g0 g1 g2 g3 hit
   replace g0 := cell_later hb g0
   replace g1 := cell_later hb g1
   replace g2 := cell_later hb g2
   replace g3 := cell_later hb g3
   obtain ⟨L, hL⟩ : ∃ L, Ix.idsT (Ix.wordP f s) (T.take k) = L := ⟨_, rfl⟩
   rw [hL] at hown hit hil
   have HK : Hid (L.length ≤ 5000000000) := Lib.hid (by omega)
   obtain ⟨W1, hW1⟩ : ∃ W1, wr.alloc (.cells #[.int .i64 y.fld, .string ⟨y.word.toArray⟩, .int .i64 y.id, .slice ya y.at_.length yc] 100) = W1 := ⟨_, rfl⟩
   have hb1 : Below wr.heap.size wr W1 := by rw [← hW1]; exact Tx.newb _ _
   have z0 : W1.cell? ⟨wr.heap.size, 0, none⟩ = some (.int .i64 y.fld) := by rw [← hW1]; simp
   have z1 : W1.cell? ⟨wr.heap.size, 1, none⟩ = some (.string ⟨y.word.toArray⟩) := by rw [← hW1]; simp
   have z2 : W1.cell? ⟨wr.heap.size, 2, none⟩ = some (.int .i64 y.id) := by rw [← hW1]; simp
   have z3 : W1.cell? ⟨wr.heap.size, 3, none⟩ = some (.slice ya y.at_.length yc) := by rw [← hW1]; simp
   have hbW := Tx.step hb hb1
   have hs1 := hbW.size
   have CQ : Hid (∀ v, Ix.wordP f s y = v → Calls Tryz.prog 149 #[.agg #[.int .i64 y.fld, .string ⟨y.word.toArray⟩, .int .i64 y.id, .slice ya y.at_.length yc], .pointer (some ⟨p1, 0, none⟩), .pointer (some ⟨p2, 0, none⟩)] W1 fun e w' => e = .returned (.bool v) ∧ Below W1.heap.size W1 w') := Lib.hid (fun v hv => by rw [← hv]; exact ixw_clo y ya yc p1 p2 f s W1 (cell_later hbW HK1.out) (cell_later hbW HK2.out) (by omega) (by omega))
   clear hL hy hil
   cases hP : Ix.wordP f s y with
   | true =>
    rw [if_pos hP] at hit
    have HIT := Lib.hid hit
    have HP := Lib.hid hP
    clear hit hP
    go_wp2_with (first
     | (at_builtin; refine wpList_append_sl rfl _ _ 35 rfl W.heap.size 3 i0 _ 1 8 Tryz.underlying35 HI.out hz0 hz1 hz2 rfl (by decide) _ (L.length) _ rfl (own3.alloc _) (some ⟨_, 0, none⟩) 1 1 [.int .i64 y.id] rfl rfl (fun h9 => by cases h9) (fun ad had => by cases had; exact Br.cells_new_at _ _ (by first | rfl | simp) _ _) (by simp [Value.oneCell']) (by unfold maxLen; have := HK.out; omega) (by have := HK.out; omega) (by simp; omega) ?_; intro v7 w7 hown7 hg7 hnil7)
     | (go_at_call 149; ((with_reducible refine (CQ.out true HP.out).mono ?_); rintro e w3 ⟨rfl, hb3x⟩; have hb3 := Tx.step hbW hb3x; have own3 := own_below (own_below hown hb1) hb3x; have x2 := cell_later hb3x z2; have hb3s := hb3.size)))
    go_roundw
    case rel => exact ⟨k + 1, hlt, by go_num, by rw [HIT.out]; exact Ix.ownI_snoc hown7, (hb3.alloc hb3s _).grown hg7 (by simp; omega) (fun j hj => (own3.lt j hj).1)⟩
    case measure => simp [intOf]; omega
   | false =>
    rw [if_neg (by rw [hP]; decide), List.append_nil] at hit
    have HIT := Lib.hid hit
    have HP := Lib.hid hP
    clear hit hP
    go_wp2_with (go_at_call 149; ((with_reducible refine (CQ.out false HP.out).mono ?_); rintro e w3 ⟨rfl, hb3x⟩))
    go_roundw
    case rel => exact ⟨k + 1, hlt, by go_num, by rw [HIT.out]; exact own_below (own_below hown hb1) hb3x, Tx.step hbW hb3x⟩
    case measure => simp [intOf]; omega
  ·obtain rfl : k = T.length := by omega
   rw [List.take_length] at hown
   have hil := Ix.idsT_len (Ix.wordP f s) T
   obtain ⟨L, hL⟩ : ∃ L, Ix.idsT (Ix.wordP f s) T = L := ⟨_, rfl⟩
   rw [hL] at hown hil
   have hcs := Cp.compact_sortedI L
   obtain ⟨M, hMd⟩ : ∃ M, (L.mergeSort fun x y => decide (x ≤ y)) = M := ⟨_, rfl⟩
   have hMl : M.length = L.length := by rw [← hMd, List.length_mergeSort]
   rw [hMd] at hcs
   have HCS := Lib.hid hcs
   have HMD := Lib.hid hMd
   have HL := Lib.hid hL
   have HMl := Lib.hid hMl
   clear hcs hMd hL hMl
   go_wp2_with (first
    | (go_at_call 87; ((with_reducible refine (SortI_c hown (by omega)).mono ?_); rintro e w3 ⟨rfl, hown3, hg3⟩; rw [HMD.out, ← HMl.out] at hown3; have hb3 := hb.grown hg3 hbs (fun j hj => (hown.lt j hj).1)))
    | (go_at_call 88; ((with_reducible refine (CompactI_c hown3 (by have := HMl.out; omega)).mono ?_); rintro e w4 ⟨va, vc, rfl, hown4, hv4, hg4⟩; have hb4 := hb3.grown hg4 hb3.size (fun j hj => (hown3.lt j hj).1))))
   go_ret
   rw [HCS.out] at hown4
   exact ⟨_, rfl, by rw [HL.out]; exact Ix.row_lower (by rw [HCS.out]; exact hown4) hbB, Tx.step hB hb4⟩
set_option maxHeartbeats 3200000 in
theorem ixp_records (T : List Ix.PT) (a : Option Addr) (c p1 p2 : Nat) (f : Int) (s : Ix.By) (w : World) (h : Ix.PsA w a c T) (hn : T.length ≤ 5000000000) (k1 : w.cell? ⟨p1, 0, none⟩ = some (.string ⟨s.toArray⟩)) (k2 : w.cell? ⟨p2, 0, none⟩ = some (.int .i64 f)) (l1 : p1 < w.heap.size) (l2 : p2 < w.heap.size) :
  Calls Tryz.prog 148 #[.agg #[.slice a T.length c], .func (.func 150) #[] #[.pointer (some ⟨p1, 0, none⟩), .pointer (some ⟨p2, 0, none⟩)]] w fun e w' => ∃ v, e = .returned v ∧ Ix.OwnI w' w.heap.size v (Cp.puts Cp.ltI (Ix.idsT (Ix.prefP f s) T)) ∧ Below w.heap.size w w' := by
 obtain ⟨i0, hi0, hz0, hz1, hz2⟩ := info_parts info_int
 have HI := Lib.hid hi0; clear hi0
 have hcap := h.fa.cap
 obtain ⟨W, hW⟩ : ∃ W, w.alloc (.cells #[.slice a T.length c] 24) = W := ⟨_, rfl⟩
 have hB : Below w.heap.size w W := by rw [← hW]; exact Tx.newb _ _
 have c0 : W.cell? ⟨w.heap.size, 0, none⟩ = some (.slice a T.length c) := by rw [← hW]; simp
 have HS := Lib.hid (h.below hB); clear h
 have hbB := hB.size
 have HK1 := Lib.hid (cell_later hB k1)
 have HK2 := Lib.hid (cell_later hB k2)
 clear k1 k2
 go_enter Tryz.func148, Tryz.ntmps148
 go_wp2
 clear hW
 go_loopw [5, 11] (fun v i wr => ∃ (k : Nat), k ≤ T.length ∧ i = .int .i64 k ∧ Ix.OwnI wr W.heap.size v (Ix.idsT (Ix.prefP f s) (T.take k)) ∧ Below W.heap.size W wr) (fun _ i _ => T.length - (intOf i).toNat)
 case atStart => exact ⟨0, Nat.zero_le _, by go_num, World.ownsRow_nil _ _ _ _, Below.refl _ _⟩
 case round =>
  obtain ⟨k, hk, rfl, hown, hb⟩ := hrel
  have hbs := hb.size
  by_cases hlt : k < T.length
  ·obtain ⟨⟨y, ya, yc⟩, hy⟩ : ∃ y, T[k]? = some y := ⟨_, List.getElem?_eq_getElem hlt⟩
   have hit := Ix.idsT_take (p := Ix.prefP f s) hy
   have hil := Ix.idsT_len (Ix.prefP f s) (T.take k)
   rw [List.length_take] at hil
   obtain ⟨b, o, rfl, hbl, g0, g1, g2, g3, _⟩ := HS.out.get hy
   simp only at g0 g1 g2 g3 hit
   replace g0 := cell_later hb g0
   replace g1 := cell_later hb g1
   replace g2 := cell_later hb g2
   replace g3 := cell_later hb g3
   obtain ⟨L, hL⟩ : ∃ L, Ix.idsT (Ix.prefP f s) (T.take k) = L := ⟨_, rfl⟩
   rw [hL] at hown hit hil
   have HK : Hid (L.length ≤ 5000000000) := Lib.hid (by omega)
   obtain ⟨W1, hW1⟩ : ∃ W1, wr.alloc (.cells #[.int .i64 y.fld, .string ⟨y.word.toArray⟩, .int .i64 y.id, .slice ya y.at_.length yc] 100) = W1 := ⟨_, rfl⟩
   have hb1 : Below wr.heap.size wr W1 := by rw [← hW1]; exact Tx.newb _ _
   have z0 : W1.cell? ⟨wr.heap.size, 0, none⟩ = some (.int .i64 y.fld) := by rw [← hW1]; simp
   have z1 : W1.cell? ⟨wr.heap.size, 1, none⟩ = some (.string ⟨y.word.toArray⟩) := by rw [← hW1]; simp
   have z2 : W1.cell? ⟨wr.heap.size, 2, none⟩ = some (.int .i64 y.id) := by rw [← hW1]; simp
   have z3 : W1.cell? ⟨wr.heap.size, 3, none⟩ = some (.slice ya y.at_.length yc) := by rw [← hW1]; simp
   have hbW := Tx.step hb hb1
   have hs1 := hbW.size
   have CQ : Hid (∀ v, Ix.prefP f s y = v → Calls Tryz.prog 150 #[.agg #[.int .i64 y.fld, .string ⟨y.word.toArray⟩, .int .i64 y.id, .slice ya y.at_.length yc], .pointer (some ⟨p1, 0, none⟩), .pointer (some ⟨p2, 0, none⟩)] W1 fun e w' => e = .returned (.bool v) ∧ Below W1.heap.size W1 w') := Lib.hid (fun v hv => by rw [← hv]; exact ixp_clo y ya yc p1 p2 f s W1 (cell_later hbW HK1.out) (cell_later hbW HK2.out) (by omega) (by omega))
   clear hL hy hil
   cases hP : Ix.prefP f s y with
   | true =>
    rw [if_pos hP] at hit
    have HIT := Lib.hid hit
    have HP := Lib.hid hP
    clear hit hP
    go_wp2_with (first
     | (at_builtin; refine wpList_append_sl rfl _ _ 35 rfl W.heap.size 3 i0 _ 1 8 Tryz.underlying35 HI.out hz0 hz1 hz2 rfl (by decide) _ (L.length) _ rfl (own3.alloc _) (some ⟨_, 0, none⟩) 1 1 [.int .i64 y.id] rfl rfl (fun h9 => by cases h9) (fun ad had => by cases had; exact Br.cells_new_at _ _ (by first | rfl | simp) _ _) (by simp [Value.oneCell']) (by unfold maxLen; have := HK.out; omega) (by have := HK.out; omega) (by simp; omega) ?_; intro v7 w7 hown7 hg7 hnil7)
     | (go_at_call 150; ((with_reducible refine (CQ.out true HP.out).mono ?_); rintro e w3 ⟨rfl, hb3x⟩; have hb3 := Tx.step hbW hb3x; have own3 := own_below (own_below hown hb1) hb3x; have x2 := cell_later hb3x z2; have hb3s := hb3.size)))
    go_roundw
    case rel => exact ⟨k + 1, hlt, by go_num, by rw [HIT.out]; exact Ix.ownI_snoc hown7, (hb3.alloc hb3s _).grown hg7 (by simp; omega) (fun j hj => (own3.lt j hj).1)⟩
    case measure => simp [intOf]; omega
   | false =>
    rw [if_neg (by rw [hP]; decide), List.append_nil] at hit
    have HIT := Lib.hid hit
    have HP := Lib.hid hP
    clear hit hP
    go_wp2_with (go_at_call 150; ((with_reducible refine (CQ.out false HP.out).mono ?_); rintro e w3 ⟨rfl, hb3x⟩))
    go_roundw
    case rel => exact ⟨k + 1, hlt, by go_num, by rw [HIT.out]; exact own_below (own_below hown hb1) hb3x, Tx.step hbW hb3x⟩
    case measure => simp [intOf]; omega
  ·obtain rfl : k = T.length := by omega
   rw [List.take_length] at hown
   have hil := Ix.idsT_len (Ix.prefP f s) T
   obtain ⟨L, hL⟩ : ∃ L, Ix.idsT (Ix.prefP f s) T = L := ⟨_, rfl⟩
   rw [hL] at hown hil
   have hcs := Cp.compact_sortedI L
   obtain ⟨M, hMd⟩ : ∃ M, (L.mergeSort fun x y => decide (x ≤ y)) = M := ⟨_, rfl⟩
   have hMl : M.length = L.length := by rw [← hMd, List.length_mergeSort]
   rw [hMd] at hcs
   have HCS := Lib.hid hcs
   have HMD := Lib.hid hMd
   have HL := Lib.hid hL
   have HMl := Lib.hid hMl
   clear hcs hMd hL hMl
   go_wp2_with (first
    | (go_at_call 87; ((with_reducible refine (SortI_c hown (by omega)).mono ?_); rintro e w3 ⟨rfl, hown3, hg3⟩; rw [HMD.out, ← HMl.out] at hown3; have hb3 := hb.grown hg3 hbs (fun j hj => (hown.lt j hj).1)))
    | (go_at_call 88; ((with_reducible refine (CompactI_c hown3 (by have := HMl.out; omega)).mono ?_); rintro e w4 ⟨va, vc, rfl, hown4, hv4, hg4⟩; have hb4 := hb3.grown hg4 hb3.size (fun j hj => (hown3.lt j hj).1))))
   go_ret
   rw [HCS.out] at hown4
   exact ⟨_, rfl, by rw [HL.out]; exact Ix.row_lower (by rw [HCS.out]; exact hown4) hbB, Tx.step hB hb4⟩
set_option maxHeartbeats 1600000 in
theorem ix_Word_c (T : List Ix.PT) (a : Option Addr) (c : Nat) (f : Int) (s : Ix.By) (w : World) (h : Ix.PsA w a c T) (hn : T.length ≤ 5000000000) :
  Calls Tryz.prog 81 #[.agg #[.slice a T.length c], .int .i64 f, .string ⟨s.toArray⟩] w fun e w' => ∃ v, e = .returned v ∧ Ix.OwnI w' w.heap.size v (Cp.puts Cp.ltI (Ix.idsT (Ix.wordP f s) T)) ∧ Below w.heap.size w w' := by
 obtain ⟨W, hW⟩ : ∃ W, ((w.alloc (.cells #[.slice a T.length c] 24)).alloc (.cells #[.int .i64 f] 3)).alloc (.cells #[.string ⟨s.toArray⟩] 9) = W := ⟨_, rfl⟩
 have hB : Below w.heap.size w W := by rw [← hW]; exact ((Tx.newb _ _).alloc (by simp) _).alloc (by simp; omega) _
 have hsW : W.heap.size = w.heap.size + 3 := by rw [← hW]; simp
 have c0 : W.cell? ⟨w.heap.size, 0, none⟩ = some (.slice a T.length c) := by
  rw [← hW]
  exact (Tx.blk (Tx.blk_later (Tx.blk_later (heap_alloc_new w (.cells #[.slice a T.length c] 24)) (Tx.newb _ _)) (Tx.newb _ _))).1 0
 have k1 : W.cell? ⟨w.heap.size + 1, 0, none⟩ = some (.int .i64 f) := by
  rw [← hW]
  have h9 := heap_alloc_new (w.alloc (.cells #[.slice a T.length c] 24)) (.cells #[.int .i64 f] 3)
  rw [World.size_alloc] at h9
  exact (Tx.blk (Tx.blk_later h9 (Tx.newb _ _))).1 0
 have k2 : W.cell? ⟨w.heap.size + 1 + 1, 0, none⟩ = some (.string ⟨s.toArray⟩) := by
  rw [← hW]
  have h9 := heap_alloc_new ((w.alloc (.cells #[.slice a T.length c] 24)).alloc (.cells #[.int .i64 f] 3)) (.cells #[.string ⟨s.toArray⟩] 9)
  rw [World.size_alloc, World.size_alloc] at h9
  exact (Tx.blk h9).1 0
 have CR : Hid (Calls Tryz.prog 148 #[.agg #[.slice a T.length c], .func (.func 149) #[] #[.pointer (some ⟨w.heap.size + 1, 0, none⟩), .pointer (some ⟨w.heap.size + 1 + 1, 0, none⟩)]] W fun e w' => ∃ v, e = .returned v ∧ Ix.OwnI w' W.heap.size v (Cp.puts Cp.ltI (Ix.idsT (Ix.wordP f s) T)) ∧ Below W.heap.size W w') := Lib.hid (ixw_records T a c _ _ f s W (h.below hB) hn k1 k2 (by omega) (by omega))
 have hmf : ∀ (fn : Fn) (first cap : Array Value) (w : World), (Instr.makeFunc fn first cap).run Tryz.prog w = .ok (.func fn first cap) w := fun _ _ _ _ => rfl
 clear h
 go_enter Tryz.func81, Tryz.ntmps81
 go_wp2_with (go_at_call 148; ((with_reducible refine CR.out.mono ?_); rintro e w3 ⟨v, rfl, hown, hb3⟩))
 go_ret
 exact ⟨_, rfl, Ix.row_lower hown hB.size, Tx.step hB hb3⟩
set_option maxHeartbeats 1600000 in
theorem ix_Prefix_c (T : List Ix.PT) (a : Option Addr) (c : Nat) (f : Int) (s : Ix.By) (w : World) (h : Ix.PsA w a c T) (hn : T.length ≤ 5000000000) :
  Calls Tryz.prog 82 #[.agg #[.slice a T.length c], .int .i64 f, .string ⟨s.toArray⟩] w fun e w' => ∃ v, e = .returned v ∧ Ix.OwnI w' w.heap.size v (Cp.puts Cp.ltI (Ix.idsT (Ix.prefP f s) T)) ∧ Below w.heap.size w w' := by
 obtain ⟨W, hW⟩ : ∃ W, ((w.alloc (.cells #[.slice a T.length c] 24)).alloc (.cells #[.int .i64 f] 3)).alloc (.cells #[.string ⟨s.toArray⟩] 9) = W := ⟨_, rfl⟩
 have hB : Below w.heap.size w W := by rw [← hW]; exact ((Tx.newb _ _).alloc (by simp) _).alloc (by simp; omega) _
 have hsW : W.heap.size = w.heap.size + 3 := by rw [← hW]; simp
 have c0 : W.cell? ⟨w.heap.size, 0, none⟩ = some (.slice a T.length c) := by
  rw [← hW]
  exact (Tx.blk (Tx.blk_later (Tx.blk_later (heap_alloc_new w (.cells #[.slice a T.length c] 24)) (Tx.newb _ _)) (Tx.newb _ _))).1 0
 have k1 : W.cell? ⟨w.heap.size + 1, 0, none⟩ = some (.int .i64 f) := by
  rw [← hW]
  have h9 := heap_alloc_new (w.alloc (.cells #[.slice a T.length c] 24)) (.cells #[.int .i64 f] 3)
  rw [World.size_alloc] at h9
  exact (Tx.blk (Tx.blk_later h9 (Tx.newb _ _))).1 0
 have k2 : W.cell? ⟨w.heap.size + 1 + 1, 0, none⟩ = some (.string ⟨s.toArray⟩) := by
  rw [← hW]
  have h9 := heap_alloc_new ((w.alloc (.cells #[.slice a T.length c] 24)).alloc (.cells #[.int .i64 f] 3)) (.cells #[.string ⟨s.toArray⟩] 9)
  rw [World.size_alloc, World.size_alloc] at h9
  exact (Tx.blk h9).1 0
 have CR : Hid (Calls Tryz.prog 148 #[.agg #[.slice a T.length c], .func (.func 150) #[] #[.pointer (some ⟨w.heap.size + 1 + 1, 0, none⟩), .pointer (some ⟨w.heap.size + 1, 0, none⟩)]] W fun e w' => ∃ v, e = .returned v ∧ Ix.OwnI w' W.heap.size v (Cp.puts Cp.ltI (Ix.idsT (Ix.prefP f s) T)) ∧ Below W.heap.size W w') := Lib.hid (ixp_records T a c _ _ f s W (h.below hB) hn k2 k1 (by omega) (by omega))
 have hmf : ∀ (fn : Fn) (first cap : Array Value) (w : World), (Instr.makeFunc fn first cap).run Tryz.prog w = .ok (.func fn first cap) w := fun _ _ _ _ => rfl
 clear h
 go_enter Tryz.func82, Tryz.ntmps82
 go_wp2_with (go_at_call 148; ((with_reducible refine CR.out.mono ?_); rintro e w3 ⟨v, rfl, hown, hb3⟩))
 go_ret
 exact ⟨_, rfl, Ix.row_lower hown hB.size, Tx.step hB hb3⟩
end Go.Proofs.YtlakomilichhnaaGreatDoor
namespace Go.Proofs.YtlakomilichhnaaGreatDoor
set_option maxRecDepth 100000
namespace Sr
open Rc hiding bys
open Qr
def bs (l : By) : ByteArray := ⟨l.toArray⟩
def bookF (title : By) : Fl := ⟨bs [50, 52, 53], bs [32, 32], [(97, bs title)], 0⟩
def bookY (year : By) : Fl := ⟨bs [50, 54, 52], bs [32, 49], [(99, bs year)], 0⟩
def book (id : Int) (title year : By) : Rd := ⟨id, 3, 1, bs [101, 110, 103], if year = [] then [bookF title] else [bookF title, bookY year]⟩
def ex3 : List Rd := [book 1 [84, 104, 101, 32, 68, 111, 103, 115] [49, 57, 57, 56], book 2 [67, 97, 116, 115] [50, 48, 48, 49], book 3 [68, 111, 103, 115, 32, 97, 110, 100, 32, 67, 97, 116, 115] []]
def wq (w : By) : Qy := .mk 1 0 [bs w] 0 0 []
def exFind (q : Qy) (by_ : Int) : List Int := order ex3 (evalQ (Ix.build ex3) ex3 q) by_ [101, 110, 103]
theorem ex_parse1 : parse [100, 111, 103, 115] = (wq [100, 111, 103, 115], 0) := by kernel_rfl
theorem ex_parse2 : parse [99, 97, 116, 115] = (wq [99, 97, 116, 115], 0) := by kernel_rfl
theorem ex_parse3 : parse [121, 101, 97, 114, 58, 49, 57, 57, 48, 45, 50, 48, 48, 53] = (.mk 4 0 [] 1990 2005 [], 0) := by kernel_rfl
theorem ex_parse4 : parse [100, 111, 103, 115, 32, 78, 79, 84, 32, 99, 97, 116, 115] = (.mk 7 0 [] 0 0 [wq [100, 111, 103, 115], wq [99, 97, 116, 115]], 0) := by kernel_rfl
theorem ex_parse5 : (parse [40]).2 = 3 := by kernel_rfl
theorem ex_find1 : exFind (wq [100, 111, 103, 115]) 0 = [1, 3] := by kernel_rfl
theorem ex_find2 : exFind (wq [100, 111, 103, 115]) 1 = [1, 3] := by kernel_rfl
theorem ex_find3 : exFind (wq [99, 97, 116, 115]) 1 = [2, 3] := by kernel_rfl
theorem ex_find4 : exFind (.mk 4 0 [] 1990 2005 []) 3 = [2, 1] := by kernel_rfl
theorem ex_find5 : exFind (.mk 7 0 [] 0 0 [wq [100, 111, 103, 115], wq [99, 97, 116, 115]]) 0 = [1] := by kernel_rfl
end Sr
end Go.Proofs.YtlakomilichhnaaGreatDoor
