/- Records that came in, opened, with bounds on their strings. -/
import Derived.Test.YtogpghpgnpoioaaGreatDoorCdB15
import Derived.Test.YtogpghpgnpoioaaGreatDoorKl
import Derived.Test.YtogpghpgnpoioaaGreatDoorKe
namespace Go.Proofs.YtogpghpgnpoioaaGreatDoor
open Go.ChangeShapes Go.WideShapes Go.ChangeAt Go.RowKit Go.Deep
set_option maxRecDepth 100000

section
variable {H : Type} {enc : TypeId × Value → H} {P : Program} {W : World} {base : Nat} {sp : Nat → Bool} {hd : Bool}
theorem one_i64 {fuel : Nat} {t : TypeId} {cs : List Value} {x : DataW H × List MemPlace} (hu : P.underlying t = some (.int .i64)) (h : DataW.trod enc P W base sp hd fuel t cs = some x) : ∃ n : Int, cs = [.int .i64 n] ∧ -9223372036854775808 ≤ n ∧ n ≤ 9223372036854775807 := by
  obtain ⟨n, e, _, hw⟩ := DataW.trod_int hu h
  exact ⟨n, e, wf_i64 hw⟩
theorem one_u8 {fuel : Nat} {t : TypeId} {cs : List Value} {x : DataW H × List MemPlace} (hu : P.underlying t = some (.int .u8)) (h : DataW.trod enc P W base sp hd fuel t cs = some x) : ∃ n : UInt8, cs = [.int .u8 n.toNat] := by
  obtain ⟨n, e, _, hw⟩ := DataW.trod_int hu h
  unfold Lit.wf at hw
  rw [Bool.and_eq_true, decide_eq_true_iff, decide_eq_true_iff] at hw
  have h0 : (0 : Int) ≤ n := hw.1
  have h1 : n ≤ (255 : Int) := hw.2
  refine ⟨UInt8.ofNat n.toNat, ?_⟩
  rw [e, UInt8.toNat_ofNat_of_lt' (by show n.toNat < 256; omega)]
  simp [Int.toNat_of_nonneg h0]
/-- No weight is beyond the reach. -/
def Wt (P : Program) (t : TypeId) (d : DataW H) : Prop := ∀ n ∈ DataW.weights P t d, n ≤ 140737488351232
theorem wt_all {e : TypeId} : ∀ {xs : List (DataW H)} {d : DataW H}, d ∈ xs → ∀ n ∈ DataW.weights P e d, n ∈ DataW.weightsAll P e xs
  | x :: r, d, h, n, hn => by
    unfold DataW.weightsAll
    rcases List.mem_cons.1 h with rfl | h
    · exact List.mem_append_left _ hn
    · exact List.mem_append_right _ (wt_all h n hn)
theorem wt_each : ∀ {ts : List TypeId} {xs : List (DataW H)} {j : Nat} {t : TypeId} {d : DataW H}, ts[j]? = some t → xs[j]? = some d → ∀ n ∈ DataW.weights P t d, n ∈ DataW.weightsEach P ts xs
  | [], _, j, t, d, h, _ => by simp at h
  | _ :: _, [], j, t, d, _, h => by simp at h
  | t0 :: ts, x :: r, 0, t, d, h1, h2 => by
    intro n hn
    unfold DataW.weightsEach
    obtain rfl : t0 = t := by simpa using h1
    obtain rfl : x = d := by simpa using h2
    exact List.mem_append_left _ hn
  | t0 :: ts, x :: r, j + 1, t, d, h1, h2 => by
    intro n hn
    unfold DataW.weightsEach
    exact List.mem_append_right _ (wt_each (ts := ts) (xs := r) (j := j) (by simpa using h1) (by simpa using h2) n hn)
theorem Wt.elem {t e : TypeId} (ht : P.underlying t = some (.slice e)) {xs sp : List (DataW H)} (h : Wt P t (.slice xs sp)) {d : DataW H} (hd : d ∈ xs) : Wt P e d := fun n hn => h n (by
  simp only [DataW.weights, ht]
  exact List.mem_cons_of_mem _ (List.mem_append_left _ (wt_all hd n hn)))
theorem Wt.part {t : TypeId} {fs : Array Field} (ht : P.underlying t = some (.struct fs)) {xs : List (DataW H)} (h : Wt P t (.agg xs)) {j : Nat} {f : Field} {d : DataW H} (hf : fs[j]? = some f) (hd : xs[j]? = some d) : Wt P f.type d := fun n hn => h n (by
  simp only [DataW.weights, ht]
  exact wt_each (j := j) (by rw [List.getElem?_map, Array.getElem?_toList, hf]; rfl) hd n hn)
theorem Wt.str {t : TypeId} {s : List UInt8} (h : Wt P t (.lit (.string s) : DataW H)) : s.length ≤ 140737488351232 := h _ (by simp [DataW.weights])
theorem Wt.arg {ts : List TypeId} {ds : List (DataW H)} (h : (DataW.weightsEach P ts ds).all (· ≤ reachBytes) = true) {j : Nat} {t : TypeId} {d : DataW H} (ht : ts[j]? = some t) (hd : ds[j]? = some d) : Wt P t d := fun n hn => by
  have := List.all_eq_true.1 h n (wt_each ht hd n hn)
  rw [decide_eq_true_eq] at this
  unfold reachBytes at this
  omega
/-- A slice whose elements are opened by R. -/
theorem open_listW {α : Type} [Inhabited α] {t e : TypeId} {k : Nat} (ht : P.underlying t = some (.slice e)) (hk : P.cellsOf e = k) (h0 : 0 < k) (R : α → List Value → Prop)
    (hR : ∀ n cs (x : DataW H × List MemPlace), Wt P e x.1 → DataW.trod enc P W base sp hd n e cs = some x → ∃ it, R it cs) {fuel : Nat} {v : Value} {x : DataW H × List MemPlace} (hw : Wt P t x.1) (h : DataW.trod enc P W base sp hd fuel t [v] = some x) :
    ∃ (xs : List α) (a : Option Addr) (c : Nat), v = .slice a xs.length c ∧ xs.length ≤ c ∧ c ≤ maxLen ∧ ∃ b o, (xs ≠ [] → a = some ⟨b, o, none⟩ ∧ b < W.heap.size) ∧ ∀ (j : Nat) x, xs[j]? = some x → ∃ cs, R x cs ∧ ∀ i, i < k → W.cell? ⟨b, o + j * k + i, none⟩ = cs[i]? := by
  rcases open_slice ht h with ⟨e, _⟩ | ⟨a', len, cap, m, n, D, Pl, e, hb, hl, hm, hmm, hxe, hel⟩
  · simp at e
    subst e
    exact ⟨[], none, 0, rfl, Nat.le_refl _, by unfold maxLen; omega, 0, 0, fun h => absurd rfl h, fun j x hx => by simp at hx⟩
  · simp at e
    subst e
    have hlm : len ≤ m := by rw [hmm]; split <;> omega
    have ht0 := ht
    have hit : ∀ i, i < len → ∃ it : α, (a'.block < W.heap.size ∧ ∃ cs, R it cs ∧ ∀ j, j < k → W.cell? ((a'.add (i * k)).add j) = cs[j]?) := fun i hi => by
      obtain ⟨cs', hc, ht⟩ := hel i (by omega)
      obtain ⟨it, hr⟩ := hR _ _ _ (by rw [hxe] at hw; exact Wt.elem ht0 hw (List.mem_map.2 ⟨i, List.mem_range.2 hi, rfl⟩)) ht
      rw [hk] at hc
      have hlt := World.cells?_block hc h0
      have hblk : (a'.add (i * k)).block = a'.block := by unfold Addr.add; split <;> rfl
      rw [hblk] at hlt
      exact ⟨it, hlt, cs', hr, (World.cells?_some hc).2.2⟩
    have hat : ∀ i, i < len → ∃ (it : α) (u : Value), W.cell? ((a'.add (i * k)).add 0) = some u := fun i hi => by
      obtain ⟨cs', hc, ht⟩ := hel i (by omega)
      rw [hk] at hc
      obtain ⟨_, hcl, hat⟩ := World.cells?_some hc
      have h1 : 0 < cs'.length := by omega
      exact ⟨default, cs'[0]'h1, by rw [hat 0 h0]; exact List.getElem?_eq_getElem h1⟩
    obtain ⟨f, hf2⟩ := choose_lt hit
    have hget : ∀ (j : Nat) x, ((List.range len).map f)[j]? = some x → j < len ∧ x = f j := fun j x hx => by
      rw [List.getElem?_map] at hx
      obtain ⟨y, hy, rfl⟩ := Option.map_eq_some_iff.1 hx
      have h1 : j < len := by have := (List.getElem?_eq_some_iff.1 hy).1; simpa using this
      rw [List.getElem?_range h1] at hy
      injection hy with hy
      exact ⟨h1, by rw [hy]⟩
    obtain ⟨b, o, spot⟩ := a'
    have hspot : 0 < len → spot = none := fun h9 => by
      obtain ⟨_, u, hu⟩ := hat 0 h9
      simpa [Addr.add] using World.cell?_spot hu
    refine ⟨(List.range len).map f, some ⟨b, o, spot⟩, cap, by simp, by simpa using hl, hm, b, o, fun hne => ?_, fun j x hx => ?_⟩
    · have h9 : 0 < len := by
        rcases Nat.eq_zero_or_pos len with h | h
        · subst h; simp at hne
        · exact h
      exact ⟨by rw [hspot h9], (hf2 0 h9).1⟩
    · obtain ⟨hj, rfl⟩ := hget j x hx
      obtain ⟨cs, hr, g⟩ := (hf2 j hj).2
      obtain rfl := hspot (by omega)
      simp only [add_plain] at g
      exact ⟨cs, hr, g⟩
end

section
variable {H : Type} {enc : TypeId × Value → H} {W : World} {base : Nat} {sp : Nat → Bool} {hd : Bool}
theorem open_sub {fuel : Nat} {cs : List Value} {x : DataW H × List MemPlace} (hw : Wt Tryz.prog 66 x.1) (h : DataW.trod enc Tryz.prog W base sp hd fuel 66 cs = some x) : ∃ s : UInt8 × ByteArray, cs = [.int .u8 s.1.toNat, .string s.2] ∧ s.2.size ≤ 140737488351232 := by
  obtain ⟨xs, n, _, rfl, hl, hxl, hg⟩ := DataW.trod_struct Tryz.underlying66 h
  have hl2 : cs.length = 2 := hl.trans (by kernel_rfl)
  match cs, hl2 with
  | [c0, c1], _ =>
    match xs, hxl with
    | [x0, x1], _ =>
      have k5 : Tryz.prog.cellsOf 5 = 1 := by kernel_rfl
      have k9 : Tryz.prog.cellsOf 9 = 1 := by kernel_rfl
      obtain ⟨n0, e0⟩ := one_u8 Tryz.underlying5 (show DataW.trod enc Tryz.prog W base sp hd n 5 [c0] = some x0 from by simpa [k5] using hg 0 _ rfl)
      obtain ⟨n1, e1, d1, _⟩ := DataW.trod_string Tryz.underlying9 (show DataW.trod enc Tryz.prog W base sp hd n 9 [c1] = some x1 from by simpa [k9] using hg 1 _ rfl)
      injection e0 with e0
      injection e1 with e1
      subst d1
      have hs := Wt.str (Wt.part (j := 1) Tryz.underlying66 hw rfl rfl)
      exact ⟨(n0, n1), by rw [e0, e1], by rw [Lib.size_eq]; exact hs⟩
theorem open_subs {fuel : Nat} {v : Value} {x : DataW H × List MemPlace} (hw : Wt Tryz.prog 55 x.1) (h : DataW.trod enc Tryz.prog W base sp hd fuel 55 [v] = some x) : ∃ (xs : List (UInt8 × ByteArray)) (a : Option Addr) (c : Nat), v = .slice a xs.length c ∧ Rc.SubA W a c xs ∧ ∀ s ∈ xs, s.2.size ≤ 140737488351232 := by
  obtain ⟨xs, a, c, e, h1, h2, b, o, h3, h4⟩ := open_listW Tryz.underlying55 (show Tryz.prog.cellsOf 66 = 2 by kernel_rfl) (by omega) (fun (s : UInt8 × ByteArray) cs => cs = [.int .u8 s.1.toNat, .string s.2] ∧ s.2.size ≤ 140737488351232) (fun n cs x hw hx => open_sub hw hx) hw h
  refine ⟨xs, a, c, e, ⟨h1, h2, b, o, h3, fun j x hx => ?_⟩, fun x hx => ?_⟩
  · obtain ⟨cs, ⟨rfl, _⟩, g⟩ := h4 j x hx
    exact ⟨g 0 (by omega), g 1 (by omega)⟩
  · obtain ⟨j, hj⟩ := List.getElem?_of_mem hx
    obtain ⟨cs, ⟨_, hs⟩, _⟩ := h4 j x hj
    exact hs
/-- A field's cells. -/
def FlC (W : World) (f : Rc.Fl) (cs : List Value) : Prop := ∃ sa sc, cs = [.string f.tag, .string f.ind, .slice sa f.subs.length sc, .int .i64 f.auth] ∧ Rc.SubA W sa sc f.subs ∧ (∀ s ∈ f.subs, s.2.size ≤ 140737488351232) ∧ (-9223372036854775808 ≤ f.auth ∧ f.auth ≤ 9223372036854775807)
theorem open_field {fuel : Nat} {cs : List Value} {x : DataW H × List MemPlace} (hw : Wt Tryz.prog 57 x.1) (h : DataW.trod enc Tryz.prog W base sp hd fuel 57 cs = some x) : ∃ f : Rc.Fl, FlC W f cs := by
  obtain ⟨xs, n, _, rfl, hl, hxl, hg⟩ := DataW.trod_struct Tryz.underlying57 h
  have hl4 : cs.length = 4 := hl.trans (by kernel_rfl)
  match cs, hl4 with
  | [c0, c1, c2, c3], _ =>
    match xs, hxl with
    | [x0, x1, x2, x3], _ =>
      have k3 : Tryz.prog.cellsOf 3 = 1 := by kernel_rfl
      have k9 : Tryz.prog.cellsOf 9 = 1 := by kernel_rfl
      have k40 : Tryz.prog.cellsOf 55 = 1 := by kernel_rfl
      obtain ⟨n0, e0, _, _⟩ := DataW.trod_string Tryz.underlying9 (show DataW.trod enc Tryz.prog W base sp hd n 9 [c0] = some x0 from by simpa [k9] using hg 0 _ rfl)
      obtain ⟨n1, e1, _, _⟩ := DataW.trod_string Tryz.underlying9 (show DataW.trod enc Tryz.prog W base sp hd n 9 [c1] = some x1 from by simpa [k9] using hg 1 _ rfl)
      obtain ⟨xs2, sa, sc, e2, hs, hz⟩ := open_subs (Wt.part (j := 2) Tryz.underlying57 hw rfl rfl) (show DataW.trod enc Tryz.prog W base sp hd n 55 [c2] = some x2 from by simpa [k40] using hg 2 _ rfl)
      obtain ⟨n3, e3, l3, u3⟩ := one_i64 Tryz.underlying3 (show DataW.trod enc Tryz.prog W base sp hd n 3 [c3] = some x3 from by simpa [k3] using hg 3 _ rfl)
      injection e0 with e0
      injection e1 with e1
      injection e3 with e3
      exact ⟨⟨n0, n1, xs2, n3⟩, sa, sc, by rw [e0, e1, e2, e3], hs, hz, l3, u3⟩
instance : Inhabited Rc.Fl := ⟨⟨⟨#[]⟩, ⟨#[]⟩, [], 0⟩⟩
theorem open_fields {fuel : Nat} {v : Value} {x : DataW H × List MemPlace} (hw : Wt Tryz.prog 31 x.1) (h : DataW.trod enc Tryz.prog W base sp hd fuel 31 [v] = some x) : ∃ (fs : List Rc.Fl) (a : Option Addr) (c : Nat), v = .slice a fs.length c ∧ Rc.FldA W a c fs ∧ ∀ f ∈ fs, ∀ s ∈ f.subs, s.2.size ≤ 140737488351232 := by
  obtain ⟨xs, a, c, e, h1, h2, b, o, h3, h4⟩ := open_listW Tryz.underlying31 (show Tryz.prog.cellsOf 57 = 4 by kernel_rfl) (by omega) (FlC W) (fun n cs x hw hx => open_field hw hx) hw h
  refine ⟨xs, a, c, e, ⟨h1, h2, b, o, h3, fun j x hx => ?_⟩, fun x hx => ?_⟩
  · obtain ⟨cs, ⟨sa, sc, rfl, hs, _⟩, g⟩ := h4 j x hx
    exact ⟨g 0 (by omega), g 1 (by omega), ⟨sa, sc, g 2 (by omega), hs⟩, g 3 (by omega)⟩
  · obtain ⟨j, hj⟩ := List.getElem?_of_mem hx
    obtain ⟨cs, ⟨_, _, _, _, hz, _⟩, _⟩ := h4 j x hj
    exact hz
/-- A record's cells. -/
def RdC (W : World) (r : Rc.Rd) (cs : List Value) : Prop := ∃ a c, cs = [.int .i64 r.id, .int .i64 r.ver, .int .i64 r.kind, .string r.lang, .slice a r.fields.length c] ∧ Rc.FldA W a c r.fields ∧ (∀ f ∈ r.fields, ∀ s ∈ f.subs, s.2.size ≤ 140737488351232) ∧ (-9223372036854775808 ≤ r.id ∧ r.id ≤ 9223372036854775807)
theorem open_rec {fuel : Nat} {cs : List Value} {x : DataW H × List MemPlace} (hw : Wt Tryz.prog 33 x.1) (h : DataW.trod enc Tryz.prog W base sp hd fuel 33 cs = some x) : ∃ r : Rc.Rd, RdC W r cs := by
  obtain ⟨xs, n, _, rfl, hl, hxl, hg⟩ := DataW.trod_struct Tryz.underlying33 h
  have hl5 : cs.length = 5 := hl.trans (by kernel_rfl)
  match cs, hl5 with
  | [c0, c1, c2, c3, c4], _ =>
    match xs, hxl with
    | [x0, x1, x2, x3, x4], _ =>
      have k3 : Tryz.prog.cellsOf 3 = 1 := by kernel_rfl
      have k9 : Tryz.prog.cellsOf 9 = 1 := by kernel_rfl
      have k22 : Tryz.prog.cellsOf 31 = 1 := by kernel_rfl
      obtain ⟨n0, e0, l0, u0⟩ := one_i64 Tryz.underlying3 (show DataW.trod enc Tryz.prog W base sp hd n 3 [c0] = some x0 from by simpa [k3] using hg 0 _ rfl)
      obtain ⟨n1, e1, _, _⟩ := one_i64 Tryz.underlying3 (show DataW.trod enc Tryz.prog W base sp hd n 3 [c1] = some x1 from by simpa [k3] using hg 1 _ rfl)
      obtain ⟨n2, e2, _, _⟩ := one_i64 Tryz.underlying3 (show DataW.trod enc Tryz.prog W base sp hd n 3 [c2] = some x2 from by simpa [k3] using hg 2 _ rfl)
      obtain ⟨n3, e3, _, _⟩ := DataW.trod_string Tryz.underlying9 (show DataW.trod enc Tryz.prog W base sp hd n 9 [c3] = some x3 from by simpa [k9] using hg 3 _ rfl)
      obtain ⟨fs, a, c, e4, hs, hz⟩ := open_fields (Wt.part (j := 4) Tryz.underlying33 hw rfl rfl) (show DataW.trod enc Tryz.prog W base sp hd n 31 [c4] = some x4 from by simpa [k22] using hg 4 _ rfl)
      injection e0 with e0
      injection e1 with e1
      injection e2 with e2
      injection e3 with e3
      exact ⟨⟨n0, n1, n2, n3, fs⟩, a, c, by rw [e0, e1, e2, e3, e4], hs, hz, l0, u0⟩
/-- A record by value, opened. -/
theorem open_record {r : Reach} {b0 : Nat} {v : Value} {d : DataW H} {ps : List MemPlace} (hw : Wt Tryz.prog 33 d) (hv : Value.okWide Tryz.prog W r b0 33 v) (h : DataW.Trod enc Tryz.prog W base sp hd 33 v d ps) :
    ∃ (fs : List Rc.Fl) (a : Option Addr) (c : Nat) (id ver kind : Int) (lang : ByteArray), v = .agg #[.int .i64 id, .int .i64 ver, .int .i64 kind, .string lang, .slice a fs.length c] ∧ Rc.FldA W a c fs ∧ (∀ f ∈ fs, ∀ s ∈ f.subs, s.2.size ≤ 140737488351232) ∧ (-9223372036854775808 ≤ id ∧ id ≤ 9223372036854775807) := by
  obtain ⟨fuel, hf⟩ := h
  obtain ⟨cs, rfl, _⟩ := okWide_struct Tryz.underlying33 hv
  obtain ⟨⟨id, ver, kind, lang, fs⟩, a, c, e, hF, hz, hl, hu⟩ := open_rec hw hf
  refine ⟨fs, a, c, id, ver, kind, lang, ?_, hF, hz, hl, hu⟩
  simp [Value.cells] at e
  rw [← Array.toArray_toList (xs := cs), e]
instance : Inhabited Rc.Rd := ⟨⟨0, 0, 0, ⟨#[]⟩, []⟩⟩
/-- A list of records, opened. -/
theorem open_records {r : Reach} {b0 : Nat} {v : Value} {d : DataW H} {ps : List MemPlace} (hw : Wt Tryz.prog 43 d) (hv : Value.okWide Tryz.prog W r b0 43 v) (h : DataW.Trod enc Tryz.prog W base sp hd 43 v d ps) : ∃ (rs : List Rc.Rd) (a : Option Addr) (c : Nat), v = .slice a rs.length c ∧ Rc.RdA W a c rs ∧ ∀ r ∈ rs, (∀ f ∈ r.fields, ∀ s ∈ f.subs, s.2.size ≤ 140737488351232) ∧ (-9223372036854775808 ≤ r.id ∧ r.id ≤ 9223372036854775807) := by
  obtain ⟨fuel, hf⟩ := h
  obtain ⟨a0, len, cap, rfl⟩ := okWide_slice Tryz.underlying43 hv
  obtain ⟨xs, a, c, e, h1, h2, b, o, h3, h4⟩ := open_listW Tryz.underlying43 (show Tryz.prog.cellsOf 33 = 5 by kernel_rfl) (by omega) (RdC W) (fun n cs x hw hx => open_rec hw hx) (x := (d, ps)) hw (show DataW.trod enc Tryz.prog W base sp hd fuel 43 [.slice a0 len cap] = some (d, ps) from by simpa [Value.cells] using hf)
  refine ⟨xs, a, c, e, ⟨h1, h2, b, o, h3, fun j x hx => ?_⟩, fun x hx => ?_⟩
  · obtain ⟨cs, ⟨fa, fc, rfl, hs, _⟩, g⟩ := h4 j x hx
    exact ⟨g 0 (by omega), g 1 (by omega), g 2 (by omega), g 3 (by omega), ⟨fa, fc, g 4 (by omega), hs⟩⟩
  · obtain ⟨j, hj⟩ := List.getElem?_of_mem hx
    obtain ⟨cs, ⟨_, _, _, _, hz, hb⟩, _⟩ := h4 j x hj
    exact ⟨hz, hb⟩
instance : Inhabited Mt.Key := ⟨⟨⟨#[]⟩, 0, 0, 0⟩⟩
theorem open_key {fuel : Nat} {cs : List Value} {x : DataW H × List MemPlace} (hw : Wt Tryz.prog 39 x.1) (h : DataW.trod enc Tryz.prog W base sp hd fuel 39 cs = some x) : ∃ k : Mt.Key, cs = Mt.encK k ∧ k.tag.size ≤ 140737488351232 := by
  obtain ⟨xs, n, _, rfl, hl, hxl, hg⟩ := DataW.trod_struct Tryz.underlying39 h
  have hl4 : cs.length = 4 := hl.trans (by kernel_rfl)
  match cs, hl4 with
  | [c0, c1, c2, c3], _ =>
    match xs, hxl with
    | [x0, x1, x2, x3], _ =>
      have k3 : Tryz.prog.cellsOf 3 = 1 := by kernel_rfl
      have k5 : Tryz.prog.cellsOf 5 = 1 := by kernel_rfl
      have k9 : Tryz.prog.cellsOf 9 = 1 := by kernel_rfl
      obtain ⟨n0, e0, d0, _⟩ := DataW.trod_string Tryz.underlying9 (show DataW.trod enc Tryz.prog W base sp hd n 9 [c0] = some x0 from by simpa [k9] using hg 0 _ rfl)
      obtain ⟨n1, e1⟩ := one_u8 Tryz.underlying5 (show DataW.trod enc Tryz.prog W base sp hd n 5 [c1] = some x1 from by simpa [k5] using hg 1 _ rfl)
      obtain ⟨n2, e2, _, _⟩ := one_i64 Tryz.underlying3 (show DataW.trod enc Tryz.prog W base sp hd n 3 [c2] = some x2 from by simpa [k3] using hg 2 _ rfl)
      obtain ⟨n3, e3, _, _⟩ := one_i64 Tryz.underlying3 (show DataW.trod enc Tryz.prog W base sp hd n 3 [c3] = some x3 from by simpa [k3] using hg 3 _ rfl)
      injection e0 with e0
      injection e1 with e1
      injection e2 with e2
      injection e3 with e3
      subst d0
      have hs := Wt.str (Wt.part (j := 0) Tryz.underlying39 hw rfl rfl)
      exact ⟨⟨n0, n1, n2, n3⟩, by rw [e0, e1, e2, e3]; rfl, by rw [Lib.size_eq]; exact hs⟩
/-- A rule by value, opened. -/
theorem open_rule {r : Reach} {b0 : Nat} {v : Value} {d : DataW H} {ps : List MemPlace} (hw : Wt Tryz.prog 24 d) (hv : Value.okWide Tryz.prog W r b0 24 v) (h : DataW.Trod enc Tryz.prog W base sp hd 24 v d ps) :
    ∃ (m : Mt.Rule) (a : Option Addr) (c : Nat), v = .agg #[.slice a m.keys.length c, .int .i64 m.need] ∧ Mt.KyA W a c m.keys ∧ ∀ k ∈ m.keys, k.tag.size ≤ 140737488351232 := by
  obtain ⟨fuel, hf⟩ := h
  obtain ⟨cs, rfl, _⟩ := okWide_struct Tryz.underlying24 hv
  obtain ⟨xs, n, _, hx, hl, hxl, hg⟩ := DataW.trod_struct Tryz.underlying24 hf
  have hl2 : (Value.agg cs).cells.toList.length = 2 := hl.trans (by kernel_rfl)
  simp only [Value.cells] at hl2 hg
  obtain ⟨c0, c1, hc0⟩ : ∃ c0 c1, cs.toList = [c0, c1] := by
    match h9 : cs.toList, hl2 with
    | [c0, c1], _ => exact ⟨c0, c1, rfl⟩
  match xs, hxl with
  | [x0, x1], _ =>
    have k22 : Tryz.prog.cellsOf 22 = 1 := by kernel_rfl
    have k3 : Tryz.prog.cellsOf 3 = 1 := by kernel_rfl
    rw [hc0] at hg
    injection hx with hx _
    subst hx
    obtain ⟨ks, a, c, e, h1, h2, b, o, h3, h4⟩ := open_listW Tryz.underlying22 (show Tryz.prog.cellsOf 39 = 4 by kernel_rfl) (by omega) (fun (k : Mt.Key) cs => cs = Mt.encK k ∧ k.tag.size ≤ 140737488351232) (fun n cs x hw hx => open_key hw hx) (Wt.part (j := 0) Tryz.underlying24 hw rfl rfl) (show DataW.trod enc Tryz.prog W base sp hd n 22 [c0] = some x0 from by simpa [k22] using hg 0 _ rfl)
    obtain ⟨n1, e1, _, _⟩ := one_i64 Tryz.underlying3 (show DataW.trod enc Tryz.prog W base sp hd n 3 [c1] = some x1 from by simpa [k3] using hg 1 _ rfl)
    injection e1 with e1
    refine ⟨⟨ks, n1⟩, a, c, ?_, ⟨h1, h2, b, o, h3, fun j i x u hx hu => ?_⟩, fun t ht => ?_⟩
    · rw [← Array.toArray_toList (xs := cs), hc0, e, e1]
    · obtain ⟨cs, ⟨rfl, _⟩, g⟩ := h4 j x hx
      have hi : i < 4 := (List.getElem?_eq_some_iff.1 hu).1
      rw [g i hi]; exact hu
    · obtain ⟨j, hj⟩ := List.getElem?_of_mem ht
      obtain ⟨cs, ⟨_, hz⟩, _⟩ := h4 j t hj
      exact hz
end
end Go.Proofs.YtogpghpgnpoioaaGreatDoor
