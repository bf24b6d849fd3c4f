/- sync.Once, not yet done and its lock free: the parts of its slow road, as the kit's toy 'lazy' shows them. -/
import Derived.Test.YtogpghpgnpoioaaGreatDoorKb
import Derived.Tactics
import Derived.Tactics2
import Derived.Defers
import Derived.Laws.Pointers
import Derived.Laws.LoneSync
import Derived.RegionTactic
import Derived.RegionCalls
import Derived.ChangeAlike
import Derived.Laws.NewBlocks
import Derived.Laws.Tables
import Derived.Deep.WholeRow
import Derived.Laws.OwnMore
import Derived.Maps.AppendAt
namespace Go.Proofs.YtogpghpgnpoioaaGreatDoor
open Go.RowKit
set_option maxRecDepth 100000
namespace Rp

theorem disable (w : World) : (callFunc 209 #[]).run Tryz.prog w = .ok (.value (.tuple #[])) w := run_call_mark0 Tryz.func209 (by kernel_rfl) (by kernel_rfl) (by kernel_rfl) .disable (by kernel_rfl) w
theorem enable (w : World) : (callFunc 211 #[]).run Tryz.prog w = .ok (.value (.tuple #[])) w := run_call_mark0 Tryz.func211 (by kernel_rfl) (by kernel_rfl) (by kernel_rfl) .enable (by kernel_rfl) w
theorem acquire (a : Addr) (w : World) : (callFunc 212 #[.pointer (some a)]).run Tryz.prog w = .ok (.value (.tuple #[])) w := run_call_marked Tryz.func212 (by kernel_rfl) (by kernel_rfl) (by kernel_rfl) .acquire (by kernel_rfl) a w
theorem releaseMerge (a : Addr) (w : World) : (callFunc 214 #[.pointer (some a)]).run Tryz.prog w = .ok (.value (.tuple #[])) w := run_call_marked Tryz.func214 (by kernel_rfl) (by kernel_rfl) (by kernel_rfl) .releaseMerge (by kernel_rfl) a w

/-- Store(true), entered as a deferred call: the cell holds 1. -/
theorem store_deferred (a : Addr) (x : Value) (u : FrameMode) (w : World) (hc : w.cell? a = some x) (hz : w.frozen? a = false) :
    CallsD Tryz.prog 182 #[.pointer (some a), .bool true] u w fun e u' w' => u' = u ∧ (e = .returned (.tuple #[]) ∧ w' = w.drew.setCell a (.int .u32 1)) := by
  have hc' : w.drew.cell? a = some x := by go_simp
  have hz' : w.drew.frozen? a = false := by go_simp
  have hst := run_call_store (P := Tryz.prog) Tryz.func199 (by kernel_rfl) (by kernel_rfl) (by kernel_rfl) (by kernel_rfl) (k := .u32) (y := 1) hc' hz'
  go_enter_d Tryz.func182, Tryz.ntmps182
  go_wp2
  go_region_calls
  all_goals (go_end0; exact ⟨rfl, rfl⟩)

/-- The inner Unlock, the lock held and nobody waiting. -/
theorem unlock_inner (a : Addr) (w : World) (hc : w.cell? a = some (.int .i32 1)) (hz : w.frozen? a = false) :
    Calls Tryz.prog 198 #[.pointer (some a)] w fun e w' => e = .returned (.tuple #[]) ∧ w' = w.setCell a (.int .i32 0) := by
  have hd := disable
  have he := enable
  have hr := releaseMerge
  have hadd := run_call_add (P := Tryz.prog) Tryz.func215 (by kernel_rfl) (by kernel_rfl) (by kernel_rfl) .i32 (by kernel_rfl) (y := -1) (s := 0) hc hz (by simp [go_sem]; rfl)
  have hcv := run_convert_to_unsafe (P := Tryz.prog) (src := 240) (dst := 182) Tryz.underlying240 Tryz.underlying182 (by kernel_rfl) hc
  go_enter Tryz.func198, Tryz.ntmps198
  go_wp2
  first | go_end0 | (simp only [Exit.inBlock, Exit.then]; refine bodyPost_ret (results_none rfl _ _ _) rfl ?_) | refine bodyPost_ret (results_none rfl _ _ _) rfl ?_
  all_goals (try go_wp2)
  all_goals (try go_end0)
  all_goals (try exact ⟨rfl, rfl⟩)

/-- The inner Lock, the lock free. -/
theorem lock_inner (a : Addr) (w : World) (hc : w.cell? a = some (.int .i32 0)) (hz : w.frozen? a = false) :
    Calls Tryz.prog 197 #[.pointer (some a)] w fun e w' => e = .returned (.tuple #[]) ∧ w' = w.setCell a (.int .i32 1) := by
  have hd := disable
  have he := enable
  have ha := acquire
  have hcas := run_call_cas_hit (P := Tryz.prog) Tryz.func210 (by kernel_rfl) (by kernel_rfl) (by kernel_rfl) .i32 (by kernel_rfl) (y := 1) hc hz
  have hc' : (w.setCell a (.int .i32 1)).cell? a = some (.int .i32 1) := World.cell?_setCell_same w a _ hc
  have hcv := run_convert_to_unsafe (P := Tryz.prog) (src := 240) (dst := 182) Tryz.underlying240 Tryz.underlying182 (by kernel_rfl) hc'
  go_enter Tryz.func197, Tryz.ntmps197
  go_wp2
  first | go_end0 | (simp only [Exit.inBlock, Exit.then]; refine bodyPost_ret (results_none rfl _ _ _) rfl ?_) | refine bodyPost_ret (results_none rfl _ _ _) rfl ?_
  all_goals (try go_wp2)
  all_goals (try go_end0)
  all_goals (try exact ⟨rfl, rfl⟩)
end Rp
end Go.Proofs.YtogpghpgnpoioaaGreatDoor

/- sync.Once, not yet done and its lock free: Do of a strings.Replacer's buildOnce. -/
namespace Go.Proofs.YtogpghpgnpoioaaGreatDoor
open Go.RowKit
set_option maxRecDepth 100000
namespace Rp

theorem lock_c (a : Addr) (w : World) (hc : w.cell? a = some (.int .i32 0)) (hz : w.frozen? a = false) :
    Calls Tryz.prog 180 #[.pointer (some a)] w fun e w' => e = .returned (.tuple #[]) ∧ w' = w.setCell a (.int .i32 1) := by
  have HL := Lib.hid (lock_inner a w hc hz)
  go_enter Tryz.func180, Tryz.ntmps180
  go_wp2_with (go_at_call 197; ((with_reducible refine HL.out.mono ?_); rintro e w1 ⟨rfl, rfl⟩))
  go_end0
  exact ⟨rfl, rfl⟩
theorem unlock_deferred (a : Addr) (u : FrameMode) (w : World) (hc : w.cell? a = some (.int .i32 1)) (hz : w.frozen? a = false) :
    CallsD Tryz.prog 181 #[.pointer (some a)] u w fun e u' w' => u' = u ∧ (e = .returned (.tuple #[]) ∧ w' = w.setCell a (.int .i32 0)) := by
  have HL := Lib.hid (unlock_inner a w hc hz)
  go_enter_d Tryz.func181, Tryz.ntmps181
  go_wp2_with (go_at_call 198; ((with_reducible refine HL.out.mono ?_); rintro e w1 ⟨rfl, rfl⟩))
  go_end0
  exact ⟨rfl, rfl⟩
theorem load_c (a : Addr) (w : World) (hc : w.cell? a = some (.int .u32 0)) :
    Calls Tryz.prog 163 #[.pointer (some a)] w fun e w' => e = .returned (.bool false) ∧ w' = w := by
  have hl := run_call_load (P := Tryz.prog) Tryz.func179 (by kernel_rfl) (by kernel_rfl) (by kernel_rfl) .u32 (by kernel_rfl) hc
  go_enter Tryz.func163, Tryz.ntmps163
  go_wp2
  go_ret
  exact ⟨rfl, rfl⟩

set_option maxHeartbeats 1600000 in
/-- doSlow, whatever buildOnce leaves (Post), as long as it leaves the Once as it found it. -/
theorem slow_c (g : Nat) (w : World) (Post : World → Prop)
    (h0 : w.cell? ⟨g, 0, none⟩ = some (.int .u32 0)) (h1 : w.cell? ⟨g, 1, none⟩ = some (.int .i32 0)) (f1 : w.frozen? ⟨g, 1, none⟩ = false)
    (hF : Calls Tryz.prog 135 #[.pointer (some ⟨g, 0, none⟩)] (w.setCell ⟨g, 1, none⟩ (.int .i32 1)) fun e w' => e = .returned (.tuple #[]) ∧ Post w')
    (hP : ∀ w', Post w' → w'.cell? ⟨g, 0, none⟩ = some (.int .u32 0) ∧ w'.cell? ⟨g, 1, none⟩ = some (.int .i32 1) ∧ w'.frozen? ⟨g, 0, none⟩ = false ∧ w'.frozen? ⟨g, 1, none⟩ = false) :
    Calls Tryz.prog 164 #[.pointer (some ⟨g, 0, none⟩), .func (.func 135) #[.pointer (some ⟨g, 0, none⟩)] #[]] w fun e w' => e = .returned (.tuple #[]) ∧ ∃ w2, Post w2 ∧ w' = (w2.drew.setCell ⟨g, 0, none⟩ (.int .u32 1)).setCell ⟨g, 1, none⟩ (.int .i32 0) := by
  have HK := Lib.hid (lock_c ⟨g, 1, none⟩ w h1 f1)
  have HD := Lib.hid (load_c ⟨g, 0, none⟩ (w.setCell ⟨g, 1, none⟩ (.int .i32 1)) ((World.cell?_setCell_other _ ⟨g, 1, none⟩ ⟨g, 0, none⟩ _ (by simp)).trans h0))
  have HF := Lib.hid hF; clear hF
  have HP := Lib.hid hP; clear hP
  have hnot : ∀ (x : Bool) (w : World), (Op.unary .not (.bool x)).run Tryz.prog w = .ok (.bool (!x)) w := fun _ _ => rfl
  obtain ⟨w1, hw1⟩ : ∃ w1, w.setCell ⟨g, 1, none⟩ (.int .i32 1) = w1 := ⟨_, rfl⟩
  rw [hw1] at HK HD HF
  go_enter_defers Tryz.func164, Tryz.ntmps164
  go_wp2_with (first
    | (go_at_call 180; ((with_reducible refine HK.out.mono ?_); rintro e wl ⟨rfl, rfl⟩))
    | (go_at_call 163; ((with_reducible refine HD.out.mono ?_); rintro e wd ⟨rfl, rfl⟩))
    | fail)
  refine HF.out.mono ?_
  rintro e w2 ⟨rfl, hp2⟩
  obtain ⟨c0, c1, z0, z1⟩ := HP.out w2 hp2
  go_wp2
  refine leaves_cons (f := 182) (args := #[.pointer (some ⟨g, 0, none⟩), .bool true]) (by simp) (by simp [go_sem]) ?_
  refine (store_deferred ⟨g, 0, none⟩ (.int .u32 0) .returning _ c0 z0).mono ?_
  rintro e u' w'' ⟨rfl, rfl, rfl⟩
  refine leaves_cons (f := 181) (args := #[.pointer (some ⟨g, 1, none⟩)]) (by simp [settle]) (by simp [go_sem]) ?_
  refine (unlock_deferred ⟨g, 1, none⟩ _ _ ?_ ?_).mono ?_
  · refine (World.cell?_setCell_other _ ⟨g, 0, none⟩ ⟨g, 1, none⟩ _ (by simp)).trans ?_
    rw [World.cell?_drew]
    exact c1
  · simp [z1]
  rintro e u' w'' ⟨rfl, rfl, rfl⟩
  simp [Leaves, settle, results, Tryz.results164]
  exact ⟨w2, hp2, rfl⟩
set_option maxHeartbeats 800000 in
/-- Do, not yet done. -/
theorem do_c (g : Nat) (w : World) (Post : World → Prop)
    (h0 : w.cell? ⟨g, 0, none⟩ = some (.int .u32 0)) (h1 : w.cell? ⟨g, 1, none⟩ = some (.int .i32 0)) (f1 : w.frozen? ⟨g, 1, none⟩ = false)
    (hF : Calls Tryz.prog 135 #[.pointer (some ⟨g, 0, none⟩)] (w.setCell ⟨g, 1, none⟩ (.int .i32 1)) fun e w' => e = .returned (.tuple #[]) ∧ Post w')
    (hP : ∀ w', Post w' → w'.cell? ⟨g, 0, none⟩ = some (.int .u32 0) ∧ w'.cell? ⟨g, 1, none⟩ = some (.int .i32 1) ∧ w'.frozen? ⟨g, 0, none⟩ = false ∧ w'.frozen? ⟨g, 1, none⟩ = false) :
    Calls Tryz.prog 134 #[.pointer (some ⟨g, 0, none⟩), .func (.func 135) #[.pointer (some ⟨g, 0, none⟩)] #[]] w fun e w' => e = .returned (.tuple #[]) ∧ ∃ w2, Post w2 ∧ w' = (w2.drew.setCell ⟨g, 0, none⟩ (.int .u32 1)).setCell ⟨g, 1, none⟩ (.int .i32 0) := by
  have HS := Lib.hid (slow_c g w Post h0 h1 f1 hF hP)
  have HD := Lib.hid (load_c ⟨g, 0, none⟩ w h0)
  clear hF hP
  go_enter Tryz.func134, Tryz.ntmps134
  go_wp2_with (first
    | (go_at_call 163; ((with_reducible refine HD.out.mono ?_); rintro e wd ⟨rfl, rfl⟩))
    | (go_at_call 164; ((with_reducible refine HS.out.mono ?_); rintro e wd ⟨rfl, hq⟩)))
  go_end0
  exact ⟨rfl, hq⟩
end Rp
end Go.Proofs.YtogpghpgnpoioaaGreatDoor

/- A strings.Replacer's table of bytes: what build lays, cell for cell. -/
namespace Go.Proofs.YtogpghpgnpoioaaGreatDoor
open Go.RowKit
set_option maxRecDepth 100000
namespace Rp
def nil8 : Value := .slice none 0 0
def bsr (v : Value) : Array Value := (Array.replicate 256 nil8).push v
theorem mk2 (w : World) : (Instr.makeSlice 36 (.int .i64 0) (.int .i64 2)).run Tryz.prog w = .ok (.slice (some ⟨w.heap.size, 0, none⟩) 0 2) (w.alloc (.cells #[.string ⟨#[]⟩, .string ⟨#[]⟩] 9)) := by kernel_rfl
theorem zero_set (v : Value) : Tryz.zeroCells211.toList.set 256 v = (bsr v).toList := by kernel_rfl
theorem zero_size : Tryz.zeroCells211.size = 257 := by kernel_rfl
theorem bsr_size (v : Value) : (bsr v).size = 257 := by unfold bsr; simp
theorem bsr_at (v : Value) (j : Nat) (h : j < 256) : (bsr v)[j]? = some nil8 := by
  unfold bsr
  rw [Array.getElem?_push_lt (by simpa using h)]
  simp
theorem bsr_last (v : Value) : (bsr v)[256]? = some v := by
  have h : (256 : Nat) = (Array.replicate 256 nil8).size := by simp
  unfold bsr
  rw [show (((Array.replicate 256 nil8).push v)[256]? : Option Value) = ((Array.replicate 256 nil8).push v)[(Array.replicate 256 nil8).size]? by rw [← h]]
  exact Array.getElem?_push_size
theorem bsr_one (s : Value) (hs : s.oneCell' = true) : ∀ v ∈ (bsr s).toList, v.oneCell' = true := by
  intro v hv
  unfold bsr at hv
  simp at hv
  rcases hv with h | h
  · subst h; rfl
  · subst h; exact hs
/-- The block of a byteStringReplacer. -/
structure Bs (B R : Nat) (on : Nat → Bool) (n : Nat) (xs : List Value) (w : World) (v : Value) : Prop where
  h : ∃ cs, w.heap[R]? = some (.cells cs 211 (0, 0)) ∧ cs.size = 257 ∧
    (∀ j, j < 256 → ∃ x, cs[j]? = some x ∧ (on j = true → ∃ a c, x = .slice (some a) 0 c) ∧ (on j = false → x = nil8)) ∧ cs[256]? = some v
  own : w.ownsRow B 9 1 v n xs
  ne : v.ownBlock ≠ some R
section
variable {B R n : Nat} {on : Nat → Bool} {xs : List Value} {w : World} {v : Value}
theorem Bs.lt (h : Bs B R on n xs w v) : R < w.heap.size := by
  obtain ⟨cs, hp, _⟩ := h.h
  exact (Array.getElem?_eq_some_iff.1 hp).1
theorem Bs.off (h : Bs B R on n xs w v) {j : Nat} (hj : j < 256) (ho : on j = false) : w.cell? ⟨R, j, none⟩ = some nil8 := by
  obtain ⟨cs, hp, hs, ha, _⟩ := h.h
  obtain ⟨x, hx, _, h2⟩ := ha j hj
  simp [World.cell?, hp, hx, h2 ho]
theorem Bs.on_ (h : Bs B R on n xs w v) {j : Nat} (hj : j < 256) (ho : on j = true) : ∃ a c, w.cell? ⟨R, j, none⟩ = some (.slice (some a) 0 c) := by
  obtain ⟨cs, hp, hs, ha, _⟩ := h.h
  obtain ⟨x, hx, h1, _⟩ := ha j hj
  obtain ⟨a, c, rfl⟩ := h1 ho
  exact ⟨a, c, by simp [World.cell?, hp, hx]⟩
theorem Bs.rep (h : Bs B R on n xs w v) : w.cell? ⟨R, 256, none⟩ = some v := by
  obtain ⟨cs, hp, hs, ha, h2⟩ := h.h
  simp [World.cell?, hp, h2]
theorem Bs.froz (h : Bs B R on n xs w v) (j : Nat) : w.frozen? ⟨R, j, none⟩ = false := by
  obtain ⟨cs, hp, _⟩ := h.h
  simp [World.frozen?, hp]
theorem Bs.keep {w' : World} (h : Bs B R on n xs w v) (hR : w'.heap[R]? = w.heap[R]?) (ho : w'.ownsRow B 9 1 v n xs) : Bs B R on n xs w' v := by
  obtain ⟨cs, hp, hr⟩ := h.h
  exact ⟨⟨cs, by rw [hR]; exact hp, hr⟩, ho, h.ne⟩
theorem Bs.alloc (h : Bs B R on n xs w v) (o : Obj) : Bs B R on n xs (w.alloc o) v := h.keep (heap_alloc_old w o h.lt) (h.own.alloc o)
theorem Bs.drew (h : Bs B R on n xs w v) : Bs B R on n xs w.drew v := h.keep rfl h.own
theorem own_set {w : World} {B e size n : Nat} {v : Value} {xs : List Value} (h : w.ownsRow B e size v n xs) (b i : Nat) (x : Value) (hb : v.ownBlock ≠ some b) : (w.setCell ⟨b, i, none⟩ x).ownsRow B e size v n xs := by
  refine h.kept (row := some b) ⟨rfl, rfl, rfl, by simp [World.setCell], fun k hk hne => ?_⟩ (.inr hb)
  have : b ≠ k := fun e => hne (by rw [e])
  simp [World.setCell, Array.getElem?_modify, this]
theorem Bs.set (h : Bs B R on n xs w v) {j : Nat} (hj : j < 256) (a : Addr) (c : Nat) : Bs B R (fun i => on i || i == j) n xs (w.setCell ⟨R, j, none⟩ (.slice (some a) 0 c)) v := by
  obtain ⟨cs, hp, hs, ha, hl⟩ := h.h
  refine ⟨⟨cs.setIfInBounds j (.slice (some a) 0 c), ?_, by simpa using hs, fun i hi => ?_, ?_⟩, own_set h.own _ _ _ h.ne, h.ne⟩
  · rw [setCell_eq_setRow w R j cs _ (0, 0) _ hp]
    exact setRow_heap w R cs _ _ _ hp
  · by_cases e : j = i
    · subst e
      refine ⟨.slice (some a) 0 c, ?_, fun _ => ⟨a, c, rfl⟩, fun h9 => by simp at h9⟩
      rw [Array.getElem?_setIfInBounds_self, if_pos (by omega)]
    · obtain ⟨x, hx, h1, h2⟩ := ha i hi
      refine ⟨x, ?_, fun h9 => h1 ?_, fun h9 => h2 ?_⟩
      · rw [Array.getElem?_setIfInBounds_ne e]; exact hx
      · have : (i == j) = false := beq_eq_false_iff_ne.2 (fun h9 => e h9.symm)
        simpa [this] using h9
      · simp at h9; exact h9.1
  · rw [Array.getElem?_setIfInBounds_ne (by omega)]; exact hl
theorem Bs.grown {w' : World} {n' : Nat} {xs' : List Value} {v' : Value} (h : Bs B R on n xs w v) (hg : w.grownBy w' v.ownBlock) (ho : w'.ownsRow B 9 1 v' n' xs') (hv : v'.ownBlock = v.ownBlock ∨ v'.ownBlock = some w.heap.size) :
    Bs B R on n' xs' (w'.setCell ⟨R, 256, none⟩ v') v' := by
  obtain ⟨cs, hp, hs, ha, hl⟩ := h.h
  have hne : v'.ownBlock ≠ some R := by
    rcases hv with hv | hv
    · rw [hv]; exact h.ne
    · rw [hv]; have := h.lt; intro h9; injection h9; omega
  have hp' : w'.heap[R]? = some (.cells cs 211 (0, 0)) := by rw [hg.block R h.lt (fun h9 => h.ne h9.symm)]; exact hp
  refine ⟨⟨cs.setIfInBounds 256 v', ?_, by simpa using hs, fun i hi => ?_, ?_⟩, own_set ho _ _ _ hne, hne⟩
  · rw [setCell_eq_setRow w' R 256 cs _ (0, 0) _ hp']
    exact setRow_heap w' R cs _ _ _ hp'
  · obtain ⟨x, hx, h1, h2⟩ := ha i hi
    exact ⟨x, by rw [Array.getElem?_setIfInBounds_ne (by omega)]; exact hx, h1, h2⟩
  · rw [Array.getElem?_setIfInBounds_self, if_pos (by omega)]
end
theorem first (w : World) : Bs w.heap.size (w.heap.size + 1) (fun _ => false) 0 [] ((w.alloc (.cells #[.string ⟨#[]⟩, .string ⟨#[]⟩] 9)).alloc (.cells (bsr (.slice (some ⟨w.heap.size, 0, none⟩) 0 2)) 211)) (.slice (some ⟨w.heap.size, 0, none⟩) 0 2) := by
  refine ⟨⟨bsr _, ?_, bsr_size _, fun j hj => ⟨nil8, bsr_at _ j hj, fun h => by simp at h, fun _ => rfl⟩, bsr_last _⟩, ?_, by simp [Value.ownBlock]⟩
  · have := heap_alloc_new (w.alloc (.cells #[.string ⟨#[]⟩, .string ⟨#[]⟩] 9)) (.cells (bsr (.slice (some ⟨w.heap.size, 0, none⟩) 0 2)) 211)
    simpa using this
  · refine World.ownsRow.alloc ?_ _
    exact ⟨rfl, .inr ⟨w.heap.size, 2, _, rfl, Nat.le_refl _, heap_alloc_new w _, by omega, by unfold maxLen; omega, rfl, rfl⟩⟩
theorem stored (w : World) : (storeCells ⟨w.heap.size + 1, 0, none⟩ (Tryz.zeroCells211.toList.set 256 (.slice (some ⟨w.heap.size, 0, none⟩) 0 2))).run Tryz.prog ((w.alloc (.cells #[.string ⟨#[]⟩, .string ⟨#[]⟩] 9)).alloc (.cells Tryz.zeroCells211 211)) = .ok () ((w.alloc (.cells #[.string ⟨#[]⟩, .string ⟨#[]⟩] 9)).alloc (.cells (bsr (.slice (some ⟨w.heap.size, 0, none⟩) 0 2)) 211)) := by
  generalize hv : (Value.slice (some ⟨w.heap.size, 0, none⟩) 0 2) = v
  have hv1 : v.oneCell' = true := by rw [← hv]; rfl
  rw [zero_set]
  generalize hW : w.alloc (.cells #[.string ⟨#[]⟩, .string ⟨#[]⟩] 9) = W
  have hs : w.heap.size + 1 = W.heap.size := by rw [← hW]; simp
  rw [hs]
  generalize hZ : Tryz.zeroCells211 = Z
  have hZs : Z.size = 257 := by rw [← hZ]; exact zero_size
  have h := run_storeCells_from (P := Tryz.prog) W.heap.size 211 (bsr v).toList 0 Z (W.alloc (.cells Z 211)) (heap_alloc_new W _) (by rw [Array.length_toList, bsr_size, hZs]) (bsr_one v hv1)
  rw [h]
  congr 1
  rw [List.take_zero, List.nil_append, Array.toArray_toList]
  exact World.setRow_alloc_new W Z (bsr v) _
end Rp
end Go.Proofs.YtogpghpgnpoioaaGreatDoor

/- A strings.Replacer's table of bytes: what build returns. -/
namespace Go.Proofs.YtogpghpgnpoioaaGreatDoor
open Go.RowKit
set_option maxRecDepth 100000
namespace Rp
theorem run_eql_nil' {P : Program} (w : World) (t e : TypeId) (a : Option Addr) (l c : Nat) (h : P.underlying t = some (.slice e)) : (binOp .eql t (.slice a l c) (.slice none 0 0)).run P w = .ok (.bool a.isNone) w := by
  simp only [binOp]
  simp [run_equal_slice_nil w t e a l c h]
attribute [local go_sem] run_eql_nil'
def onS (m : Nat) (j : Nat) : Bool := (decide (1 ≤ m) && j == 32) || (decide (2 ≤ m) && j == 45)
def strsS (m : Nat) : List Value := [.string ⟨#[32]⟩, .string ⟨#[45]⟩].take m
/-- Behind m rounds. -/
def Rnd (w : World) (m : Nat) (wr : World) (v : Value) : Prop := Below w.heap.size w wr ∧ Hid (Bs w.heap.size (w.heap.size + 1) (onS m) m (strsS m) wr v)
theorem one_at (w : World) (g : Nat) (hg : g = w.heap.size) (x : Value) (t : TypeId) : ∀ j u, [x][j]? = some u → (w.alloc (.cells #[x] t)).cell? ((⟨g, 0, none⟩ : Addr).add j) = some u := by
  subst hg
  exact cell_one_new _ _ _
theorem own_base {w : World} {B e n : Nat} {v : Value} {xs : List Value} (h : w.ownsRow B e 1 v n xs) (k : Nat) (hk : v.ownBlock = some k) : B ≤ k := by
  rcases h.2 with ⟨rfl, _⟩ | ⟨g, cap, cur, rfl, hg, _⟩
  · cases hk
  · simp [Value.ownBlock] at hk; omega
theorem rnd {w w6 : World} (m c : Nat) {v : Value} (hc : c < 256) (hon : ∀ i, onS (m + 1) i = (onS m i || i == c)) (hb : Below w.heap.size w w6) (h : Bs w.heap.size (w.heap.size + 1) (onS m) (m + 1) (strsS (m + 1)) w6 v) (a : Addr) (cc : Nat) (X : Obj) :
    Rnd w (m + 1) (((w6.setCell ⟨w.heap.size + 1, c, none⟩ (.slice (some a) 0 cc)).alloc X).drew) v := by
  have e : onS (m + 1) = fun i => onS m i || i == c := funext hon
  have h2 := (hb.setCell (p := ⟨w.heap.size + 1, c, none⟩) (by simp) (.slice (some a) 0 cc))
  refine ⟨(h2.alloc (by have := h2.size; omega) X).drew, Lib.hid ?_⟩
  rw [e]
  exact ((h.set hc a cc).alloc X).drew
theorem Sl_str : (Tryz.prog.info? 9).map (fun i => (i.zero, i.size, i.bytes)) = some (some (.string ⟨#[]⟩), 1, 16) := by kernel_rfl
theorem byte1 (w : World) (c : UInt8) (v : Int) (hv : v = (c.toNat : Int)) : (convert 99 9 (.slice (some ⟨w.heap.size, 0, none⟩) 1 1)).run Tryz.prog (w.alloc (.cells #[.int .u8 v] 5)) = .ok (.string ⟨#[c]⟩) (w.alloc (.cells #[.int .u8 v] 5)) :=
  run_convert_bytes_back (P := Tryz.prog) (w.alloc (.cells #[.int .u8 v] 5)) 99 9 5 ⟨w.heap.size, 0, none⟩ 1 [c] Tryz.underlying99 Tryz.underlying5 Tryz.underlying9 (fun j hj => by
    have : j = 0 := by simp at hj; omega
    subst this
    exact one_at _ _ rfl _ _ 0 _ (by rw [hv]; rfl))
theorem own_form {w : World} {B e n : Nat} {v : Value} {xs : List Value} (h : w.ownsRow B e 1 v n xs) (hn : 0 < n) : ∃ a c, v = .slice (some a) n c := by
  rcases h.2 with ⟨_, h0⟩ | ⟨g, cap, cur, he, _⟩
  · omega
  · exact ⟨_, _, he⟩
theorem keep_froz {w w' : World} {B R n : Nat} {on : Nat → Bool} {xs : List Value} {v : Value} (hg : w.grownBy w' v.ownBlock) (h : Bs B R on n xs w v) (j : Nat) : w'.frozen? ⟨R, j, none⟩ = false := by
  rw [World.frozen?_of_block (w := w) (a := ⟨R, j, none⟩) (hg.block R h.lt (fun h9 => h.ne h9.symm))]
  exact h.froz j
set_option maxHeartbeats 1600000 in
theorem build_c (g ob oc : Nat) (w : World) (s4 : w.cell? ⟨g, 4, none⟩ = some (.slice (some ⟨ob, 0, none⟩) 4 oc))
    (o0 : w.cell? ⟨ob, 0, none⟩ = some (.string ⟨#[45]⟩)) (o1 : w.cell? ⟨ob, 1, none⟩ = some (.string ⟨#[]⟩)) (o2 : w.cell? ⟨ob, 2, none⟩ = some (.string ⟨#[32]⟩)) (o3 : w.cell? ⟨ob, 3, none⟩ = some (.string ⟨#[]⟩)) :
    Calls Tryz.prog 165 #[.pointer (some ⟨g, 0, none⟩)] w fun e w' => e = .returned (.iface 212 (.pointer (some ⟨w.heap.size + 1, 0, none⟩))) ∧ ∃ v, Rnd w 2 w' v := by
  have hmk := mk2
  have e32 : ∀ h, (⟨#[32]⟩ : ByteArray)[0]'h = 32 := fun _ => rfl
  have e45 : ∀ h, (⟨#[45]⟩ : ByteArray)[0]'h = 45 := fun _ => rfl
  have hstr := stored w
  have B0 := first w
  have hbW : Below w.heap.size w ((w.alloc (.cells #[.string ⟨#[]⟩, .string ⟨#[]⟩] 9)).alloc (.cells (bsr (.slice (some ⟨w.heap.size, 0, none⟩) 0 2)) 211)) := ((Below.refl _ _).alloc (Nat.le_refl _) _).alloc (by simp) _
  obtain ⟨C, hC⟩ : ∃ C, bsr (.slice (some ⟨w.heap.size, 0, none⟩) 0 2) = C := ⟨_, rfl⟩
  rw [hC] at hstr B0 hbW
  clear hC
  obtain ⟨i0, hi0, hz0, hz1, hz2⟩ := info_parts Sl_str
  have hcv2 := fun w s => run_bytes_of_string (P := Tryz.prog) w 9 99 5 s Tryz.underlying9 Tryz.underlying99 Tryz.underlying5
  obtain ⟨W, hW⟩ : ∃ W, ((w.alloc (.cells #[.string ⟨#[]⟩, .string ⟨#[]⟩] 9)).alloc (.cells C 211)) = W := ⟨_, rfl⟩
  rw [hW] at hstr B0 hbW
  have B0S : Hid (Bs w.heap.size (w.heap.size + 1) (onS 0) 0 (strsS 0) W (.slice (some ⟨w.heap.size, 0, none⟩) 0 2)) := Lib.hid B0
  clear B0
  go_enter Tryz.func165, Tryz.ntmps165
  go_wp2
  go_loop [4, 5] (fun a i => (i = .int .i64 0 ∧ a = .bool true) ∨ (i = .int .i64 2 ∧ a = .bool false) ∨ (i = .int .i64 4 ∧ a = .bool false)) (fun _ i => 4 - (intOf i).toNat)
  case atStart => exact .inl ⟨rfl, rfl⟩
  case round =>
    rcases hrel with ⟨rfl, rfl⟩ | ⟨rfl, rfl⟩ | ⟨rfl, rfl⟩
    · go_wp2
      go_round
      case rel => exact .inr (.inl ⟨by go_num, rfl⟩)
      case measure => simp [intOf]
    · go_wp2
      go_round
      case rel => exact .inr (.inr ⟨by go_num, rfl⟩)
      case measure => simp [intOf]
    · go_wp2
      clear hW
      go_loopw [12] (fun i wr => ∃ m : Nat, m ≤ 2 ∧ ((m = 0 ∧ i = .int .i64 2) ∨ (m = 1 ∧ i = .int .i64 0) ∨ (m = 2 ∧ i = .int .i64 (-2))) ∧ ∃ v, Rnd w m wr v) (fun i _ => (intOf i + 2).toNat)
      case atStart => exact ⟨0, by decide, .inl ⟨rfl, rfl⟩, _, hbW, B0S⟩
      case round =>
      obtain ⟨m, hm, hi, v, hr⟩ := hrel
      rcases hi with ⟨rfl, rfl⟩ | ⟨rfl, rfl⟩ | ⟨rfl, rfl⟩
      · obtain ⟨hb, HB⟩ := hr
        have q0 := cell_later hb o2
        have q1 := cell_later hb o3
        have qz := HB.out.off (j := 32) (by decide) (by rfl)
        unfold nil8 at qz
        have qr := HB.out.rep
        have hcv := byte1 wr 32 32 rfl
        have hlt := HB.out.lt
        have HX := (HB.out.alloc (.cells #[.int .u8 32] 5)).alloc (.cells #[.string ⟨#[32]⟩] 9)
        have hbx : w.heap.size ≤ ((wr.alloc (.cells #[.int .u8 32] 5)).alloc (.cells #[.string ⟨#[32]⟩] 9)).heap.size := by simp; omega
        have hx1 := one_at (wr.alloc (.cells #[.int .u8 32] 5)) (wr.heap.size + 1) (by simp) (.string ⟨#[32]⟩) 9
        have HX := Lib.hid HX
        have hx1 := Lib.hid hx1
        go_wp2_with (at_builtin; go_must ((refine wpList_append_own_at _ rfl _ _ 36 rfl w.heap.size 9 i0 (.string ⟨#[]⟩) 1 16 Tryz.underlying36 hi0 hz0 hz1 hz2 rfl (Nat.one_pos) _ 0 _ rfl HX.out.own ⟨_, 0, none⟩ 1 1 [.string ⟨#[32]⟩] rfl rfl hx1.out (by simp [Value.oneCell']) (by decide) (by decide) hbx ?_); intro v' w5 hown5 hg5 _ hat5; obtain ⟨a5, c5, rfl⟩ := own_form hown5 (by decide); have r5 := hg5.cell HX.out.rep (fun h9 => HX.out.ne h9.symm); have z5 := keep_froz hg5 HX.out 256; have B6 := Lib.hid (HX.out.grown hg5 hown5 hat5); have hl5 : w.heap.size + 1 < w5.heap.size := Nat.lt_of_lt_of_le HX.out.lt hg5.size; have q5 := hg5.cell (HX.out.off (j := 32) (by decide) (by rfl)) (fun h9 => HX.out.ne h9.symm); have f5 := keep_froz hg5 HX.out 32; unfold nil8 at q5; have B6 := HX.out.grown hg5 hown5 hat5; have hb6 : Below w.heap.size w (w5.setCell ⟨w.heap.size + 1, 256, none⟩ (.slice (some a5) 1 c5)) := Below.setCell (((hb.alloc (by omega) _).alloc (by simp; omega) _).grown hg5 hbx (fun k hk => own_base HX.out.own k hk)) (p := ⟨w.heap.size + 1, 256, none⟩) (by simp) _; have HR := Lib.hid (fun a cc X => rnd 0 32 (by decide) (fun i => by simp [onS]) hb6 B6 a cc X); clear B6 hb6))
        exact ⟨⟨1, by decide, .inr (.inl ⟨rfl, rfl⟩), _, HR.out _ _ _⟩, by decide⟩
      · obtain ⟨hb, HB⟩ := hr
        have q0 := cell_later hb o0
        have q1 := cell_later hb o1
        have qz := HB.out.off (j := 45) (by decide) (by rfl)
        unfold nil8 at qz
        have qr := HB.out.rep
        have hcv := byte1 wr 45 45 rfl
        have hlt := HB.out.lt
        have HX := (HB.out.alloc (.cells #[.int .u8 45] 5)).alloc (.cells #[.string ⟨#[45]⟩] 9)
        have hbx : w.heap.size ≤ ((wr.alloc (.cells #[.int .u8 45] 5)).alloc (.cells #[.string ⟨#[45]⟩] 9)).heap.size := by simp; omega
        have hx1 := one_at (wr.alloc (.cells #[.int .u8 45] 5)) (wr.heap.size + 1) (by simp) (.string ⟨#[45]⟩) 9
        have HX := Lib.hid HX
        have hx1 := Lib.hid hx1
        go_wp2_with (at_builtin; go_must ((refine wpList_append_own_at _ rfl _ _ 36 rfl w.heap.size 9 i0 (.string ⟨#[]⟩) 1 16 Tryz.underlying36 hi0 hz0 hz1 hz2 rfl (Nat.one_pos) _ 1 _ rfl HX.out.own ⟨_, 0, none⟩ 1 1 [.string ⟨#[45]⟩] rfl rfl hx1.out (by simp [Value.oneCell']) (by decide) (by decide) hbx ?_); intro v' w5 hown5 hg5 _ hat5; obtain ⟨a5, c5, rfl⟩ := own_form hown5 (by decide); have r5 := hg5.cell HX.out.rep (fun h9 => HX.out.ne h9.symm); have z5 := keep_froz hg5 HX.out 256; have B6 := Lib.hid (HX.out.grown hg5 hown5 hat5); have hl5 : w.heap.size + 1 < w5.heap.size := Nat.lt_of_lt_of_le HX.out.lt hg5.size; have q5 := hg5.cell (HX.out.off (j := 45) (by decide) (by rfl)) (fun h9 => HX.out.ne h9.symm); have f5 := keep_froz hg5 HX.out 45; unfold nil8 at q5; have B6 := HX.out.grown hg5 hown5 hat5; have hb6 : Below w.heap.size w (w5.setCell ⟨w.heap.size + 1, 256, none⟩ (.slice (some a5) 2 c5)) := Below.setCell (((hb.alloc (by omega) _).alloc (by simp; omega) _).grown hg5 hbx (fun k hk => own_base HX.out.own k hk)) (p := ⟨w.heap.size + 1, 256, none⟩) (by simp) _; have HR := Lib.hid (fun a cc X => rnd 1 45 (by decide) (fun i => by simp [onS]) hb6 B6 a cc X); clear B6 hb6))
        exact ⟨⟨2, by decide, .inr (.inr ⟨rfl, rfl⟩), _, HR.out _ _ _⟩, by decide⟩
      · go_wp2
        go_ret
        exact ⟨rfl, v, hr⟩
end Rp
end Go.Proofs.YtogpghpgnpoioaaGreatDoor
