/- Records that came in, opened. -/
import Derived.Test.YtlinaeklhkfbcaaGreatDoorCdB14
import Derived.Test.YtlinaeklhkfbcaaGreatDoorRcB
import Derived.Test.YtlinaeklhkfbcaaGreatDoorRgA
namespace Go.Proofs.YtlinaeklhkfbcaaGreatDoor
open Go.ChangeShapes Go.WideShapes Go.ChangeAt Go.RowKit Go.Deep
set_option maxRecDepth 100000

section
variable {H : Type} {enc : TypeId × Value → H} {P : Program} {W : World} {base : Nat} {sp : Nat → Bool} {hd : Bool}
theorem one_i64 {fuel : Nat} {t : TypeId} {cs : List Value} {x : DataW H × List MemPlace} (hu : P.underlying t = some (.int .i64)) (h : DataW.trod enc P W base sp hd fuel t cs = some x) : ∃ n : Int, cs = [.int .i64 n] ∧ -9223372036854775808 ≤ n ∧ n ≤ 9223372036854775807 := by
  obtain ⟨n, e, _, hw⟩ := DataW.trod_int hu h
  exact ⟨n, e, wf_i64 hw⟩
theorem one_u8 {fuel : Nat} {t : TypeId} {cs : List Value} {x : DataW H × List MemPlace} (hu : P.underlying t = some (.int .u8)) (h : DataW.trod enc P W base sp hd fuel t cs = some x) : ∃ n : UInt8, cs = [.int .u8 n.toNat] := by
  obtain ⟨n, e, _, hw⟩ := DataW.trod_int hu h
  unfold Lit.wf at hw
  rw [Bool.and_eq_true, decide_eq_true_iff, decide_eq_true_iff] at hw
  have h0 : (0 : Int) ≤ n := hw.1
  have h1 : n ≤ (255 : Int) := hw.2
  refine ⟨UInt8.ofNat n.toNat, ?_⟩
  rw [e, UInt8.toNat_ofNat_of_lt' (by show n.toNat < 256; omega)]
  simp [Int.toNat_of_nonneg h0]
/-- A slice whose elements are opened by R. -/
theorem open_list {α : Type} [Inhabited α] {t e : TypeId} {k : Nat} (ht : P.underlying t = some (.slice e)) (hk : P.cellsOf e = k) (h0 : 0 < k) (R : α → List Value → Prop)
    (hR : ∀ n cs (x : DataW H × List MemPlace), DataW.trod enc P W base sp hd n e cs = some x → ∃ it, R it cs) {fuel : Nat} {v : Value} {x : DataW H × List MemPlace} (h : DataW.trod enc P W base sp hd fuel t [v] = some x) :
    ∃ (xs : List α) (a : Option Addr) (c : Nat), v = .slice a xs.length c ∧ xs.length ≤ c ∧ c ≤ maxLen ∧ ∃ b o, (xs ≠ [] → a = some ⟨b, o, none⟩ ∧ b < W.heap.size) ∧ ∀ (j : Nat) x, xs[j]? = some x → ∃ cs, R x cs ∧ ∀ i, i < k → W.cell? ⟨b, o + j * k + i, none⟩ = cs[i]? := by
  rcases open_slice ht h with ⟨e, _⟩ | ⟨a', len, cap, m, n, D, Pl, e, hb, hl, hm, hmm, _, hel⟩
  · simp at e
    subst e
    exact ⟨[], none, 0, rfl, Nat.le_refl _, by unfold maxLen; omega, 0, 0, fun h => absurd rfl h, fun j x hx => by simp at hx⟩
  · simp at e
    subst e
    have hlm : len ≤ m := by rw [hmm]; split <;> omega
    have hit : ∀ i, i < len → ∃ it : α, (a'.block < W.heap.size ∧ ∃ cs, R it cs ∧ ∀ j, j < k → W.cell? ((a'.add (i * k)).add j) = cs[j]?) := fun i hi => by
      obtain ⟨cs', hc, ht⟩ := hel i (by omega)
      obtain ⟨it, hr⟩ := hR _ _ _ ht
      rw [hk] at hc
      have hlt := World.cells?_block hc h0
      have hblk : (a'.add (i * k)).block = a'.block := by unfold Addr.add; split <;> rfl
      rw [hblk] at hlt
      exact ⟨it, hlt, cs', hr, (World.cells?_some hc).2.2⟩
    have hat : ∀ i, i < len → ∃ (it : α) (u : Value), W.cell? ((a'.add (i * k)).add 0) = some u := fun i hi => by
      obtain ⟨cs', hc, ht⟩ := hel i (by omega)
      rw [hk] at hc
      obtain ⟨_, hcl, hat⟩ := World.cells?_some hc
      have h1 : 0 < cs'.length := by omega
      exact ⟨default, cs'[0]'h1, by rw [hat 0 h0]; exact List.getElem?_eq_getElem h1⟩
    obtain ⟨f, hf2⟩ := choose_lt hit
    have hget : ∀ (j : Nat) x, ((List.range len).map f)[j]? = some x → j < len ∧ x = f j := fun j x hx => by
      rw [List.getElem?_map] at hx
      obtain ⟨y, hy, rfl⟩ := Option.map_eq_some_iff.1 hx
      have h1 : j < len := by have := (List.getElem?_eq_some_iff.1 hy).1; simpa using this
      rw [List.getElem?_range h1] at hy
      injection hy with hy
      exact ⟨h1, by rw [hy]⟩
    obtain ⟨b, o, spot⟩ := a'
    have hspot : 0 < len → spot = none := fun h9 => by
      obtain ⟨_, u, hu⟩ := hat 0 h9
      simpa [Addr.add] using World.cell?_spot hu
    refine ⟨(List.range len).map f, some ⟨b, o, spot⟩, cap, by simp, by simpa using hl, hm, b, o, fun hne => ?_, fun j x hx => ?_⟩
    · have h9 : 0 < len := by
        rcases Nat.eq_zero_or_pos len with h | h
        · subst h; simp at hne
        · exact h
      exact ⟨by rw [hspot h9], (hf2 0 h9).1⟩
    · obtain ⟨hj, rfl⟩ := hget j x hx
      obtain ⟨cs, hr, g⟩ := (hf2 j hj).2
      obtain rfl := hspot (by omega)
      simp only [add_plain] at g
      exact ⟨cs, hr, g⟩
end

section
variable {H : Type} {enc : TypeId × Value → H} {W : World} {base : Nat} {sp : Nat → Bool} {hd : Bool}
theorem open_sub {fuel : Nat} {cs : List Value} {x : DataW H × List MemPlace} (h : DataW.trod enc Tryz.prog W base sp hd fuel 48 cs = some x) : ∃ s : UInt8 × ByteArray, cs = [.int .u8 s.1.toNat, .string s.2] := by
  obtain ⟨xs, n, _, _, hl, hxl, hg⟩ := DataW.trod_struct Tryz.underlying48 h
  have hl2 : cs.length = 2 := hl.trans (by kernel_rfl)
  match cs, hl2 with
  | [c0, c1], _ =>
    match xs, hxl with
    | [x0, x1], _ =>
      have k5 : Tryz.prog.cellsOf 5 = 1 := by kernel_rfl
      have k9 : Tryz.prog.cellsOf 9 = 1 := by kernel_rfl
      obtain ⟨n0, e0⟩ := one_u8 Tryz.underlying5 (show DataW.trod enc Tryz.prog W base sp hd n 5 [c0] = some x0 from by simpa [k5] using hg 0 _ rfl)
      obtain ⟨n1, e1, _, _⟩ := DataW.trod_string Tryz.underlying9 (show DataW.trod enc Tryz.prog W base sp hd n 9 [c1] = some x1 from by simpa [k9] using hg 1 _ rfl)
      injection e0 with e0
      injection e1 with e1
      exact ⟨(n0, n1), by rw [e0, e1]⟩
theorem open_subs {fuel : Nat} {v : Value} {x : DataW H × List MemPlace} (h : DataW.trod enc Tryz.prog W base sp hd fuel 22 [v] = some x) : ∃ (xs : List (UInt8 × ByteArray)) (a : Option Addr) (c : Nat), v = .slice a xs.length c ∧ Rc.SubA W a c xs := by
  obtain ⟨xs, a, c, e, h1, h2, b, o, h3, h4⟩ := open_list Tryz.underlying22 (show Tryz.prog.cellsOf 48 = 2 by kernel_rfl) (by omega) (fun (s : UInt8 × ByteArray) cs => cs = [.int .u8 s.1.toNat, .string s.2]) (fun n cs x hx => open_sub hx) h
  refine ⟨xs, a, c, e, h1, h2, b, o, h3, fun j x hx => ?_⟩
  obtain ⟨cs, rfl, g⟩ := h4 j x hx
  exact ⟨g 0 (by omega), g 1 (by omega)⟩
/-- A field's cells. -/
def FlC (W : World) (f : Rc.Fl) (cs : List Value) : Prop := ∃ sa sc, cs = [.string f.tag, .string f.ind, .slice sa f.subs.length sc, .int .i64 f.auth] ∧ Rc.SubA W sa sc f.subs
theorem open_field {fuel : Nat} {cs : List Value} {x : DataW H × List MemPlace} (h : DataW.trod enc Tryz.prog W base sp hd fuel 24 cs = some x) : ∃ f : Rc.Fl, FlC W f cs := by
  obtain ⟨xs, n, _, _, hl, hxl, hg⟩ := DataW.trod_struct Tryz.underlying24 h
  have hl4 : cs.length = 4 := hl.trans (by kernel_rfl)
  match cs, hl4 with
  | [c0, c1, c2, c3], _ =>
    match xs, hxl with
    | [x0, x1, x2, x3], _ =>
      have k3 : Tryz.prog.cellsOf 3 = 1 := by kernel_rfl
      have k9 : Tryz.prog.cellsOf 9 = 1 := by kernel_rfl
      have k40 : Tryz.prog.cellsOf 22 = 1 := by kernel_rfl
      obtain ⟨n0, e0, _, _⟩ := DataW.trod_string Tryz.underlying9 (show DataW.trod enc Tryz.prog W base sp hd n 9 [c0] = some x0 from by simpa [k9] using hg 0 _ rfl)
      obtain ⟨n1, e1, _, _⟩ := DataW.trod_string Tryz.underlying9 (show DataW.trod enc Tryz.prog W base sp hd n 9 [c1] = some x1 from by simpa [k9] using hg 1 _ rfl)
      obtain ⟨xs2, sa, sc, e2, hs⟩ := open_subs (show DataW.trod enc Tryz.prog W base sp hd n 22 [c2] = some x2 from by simpa [k40] using hg 2 _ rfl)
      obtain ⟨n3, e3, _, _⟩ := one_i64 Tryz.underlying3 (show DataW.trod enc Tryz.prog W base sp hd n 3 [c3] = some x3 from by simpa [k3] using hg 3 _ rfl)
      injection e0 with e0
      injection e1 with e1
      injection e3 with e3
      exact ⟨⟨n0, n1, xs2, n3⟩, sa, sc, by rw [e0, e1, e2, e3], hs⟩
instance : Inhabited Rc.Fl := ⟨⟨⟨#[]⟩, ⟨#[]⟩, [], 0⟩⟩
theorem open_fields {fuel : Nat} {v : Value} {x : DataW H × List MemPlace} (h : DataW.trod enc Tryz.prog W base sp hd fuel 36 [v] = some x) : ∃ (fs : List Rc.Fl) (a : Option Addr) (c : Nat), v = .slice a fs.length c ∧ Rc.FldA W a c fs := by
  obtain ⟨xs, a, c, e, h1, h2, b, o, h3, h4⟩ := open_list Tryz.underlying36 (show Tryz.prog.cellsOf 24 = 4 by kernel_rfl) (by omega) (FlC W) (fun n cs x hx => open_field hx) h
  refine ⟨xs, a, c, e, h1, h2, b, o, h3, fun j x hx => ?_⟩
  obtain ⟨cs, ⟨sa, sc, rfl, hs⟩, g⟩ := h4 j x hx
  exact ⟨g 0 (by omega), g 1 (by omega), ⟨sa, sc, g 2 (by omega), hs⟩, g 3 (by omega)⟩
/-- A record's cells. -/
def RdC (W : World) (r : Rc.Rd) (cs : List Value) : Prop := ∃ a c, cs = [.int .i64 r.id, .int .i64 r.ver, .int .i64 r.kind, .string r.lang, .slice a r.fields.length c] ∧ Rc.FldA W a c r.fields ∧ (-9223372036854775808 ≤ r.id ∧ r.id ≤ 9223372036854775807)
theorem open_rec {fuel : Nat} {cs : List Value} {x : DataW H × List MemPlace} (h : DataW.trod enc Tryz.prog W base sp hd fuel 38 cs = some x) : ∃ r : Rc.Rd, RdC W r cs := by
  obtain ⟨xs, n, _, _, hl, hxl, hg⟩ := DataW.trod_struct Tryz.underlying38 h
  have hl5 : cs.length = 5 := hl.trans (by kernel_rfl)
  match cs, hl5 with
  | [c0, c1, c2, c3, c4], _ =>
    match xs, hxl with
    | [x0, x1, x2, x3, x4], _ =>
      have k3 : Tryz.prog.cellsOf 3 = 1 := by kernel_rfl
      have k9 : Tryz.prog.cellsOf 9 = 1 := by kernel_rfl
      have k22 : Tryz.prog.cellsOf 36 = 1 := by kernel_rfl
      obtain ⟨n0, e0, l0, u0⟩ := one_i64 Tryz.underlying3 (show DataW.trod enc Tryz.prog W base sp hd n 3 [c0] = some x0 from by simpa [k3] using hg 0 _ rfl)
      obtain ⟨n1, e1, _, _⟩ := one_i64 Tryz.underlying3 (show DataW.trod enc Tryz.prog W base sp hd n 3 [c1] = some x1 from by simpa [k3] using hg 1 _ rfl)
      obtain ⟨n2, e2, _, _⟩ := one_i64 Tryz.underlying3 (show DataW.trod enc Tryz.prog W base sp hd n 3 [c2] = some x2 from by simpa [k3] using hg 2 _ rfl)
      obtain ⟨n3, e3, _, _⟩ := DataW.trod_string Tryz.underlying9 (show DataW.trod enc Tryz.prog W base sp hd n 9 [c3] = some x3 from by simpa [k9] using hg 3 _ rfl)
      obtain ⟨fs, a, c, e4, hs⟩ := open_fields (show DataW.trod enc Tryz.prog W base sp hd n 36 [c4] = some x4 from by simpa [k22] using hg 4 _ rfl)
      injection e0 with e0
      injection e1 with e1
      injection e2 with e2
      injection e3 with e3
      exact ⟨⟨n0, n1, n2, n3, fs⟩, a, c, by rw [e0, e1, e2, e3, e4], hs, l0, u0⟩
/-- A record by value, opened. -/
theorem open_record {r : Reach} {b0 : Nat} {v : Value} {d : DataW H} {ps : List MemPlace} (hv : Value.okWide Tryz.prog W r b0 38 v) (h : DataW.Trod enc Tryz.prog W base sp hd 38 v d ps) :
    ∃ (fs : List Rc.Fl) (a : Option Addr) (c : Nat) (id ver kind : Int) (lang : ByteArray), v = .agg #[.int .i64 id, .int .i64 ver, .int .i64 kind, .string lang, .slice a fs.length c] ∧ Rc.FldA W a c fs := by
  obtain ⟨fuel, hf⟩ := h
  obtain ⟨cs, rfl, _⟩ := okWide_struct Tryz.underlying38 hv
  obtain ⟨⟨id, ver, kind, lang, fs⟩, a, c, e, hF, _⟩ := open_rec hf
  refine ⟨fs, a, c, id, ver, kind, lang, ?_, hF⟩
  simp [Value.cells] at e
  rw [← Array.toArray_toList (xs := cs), e]
instance : Inhabited Rc.Rd := ⟨⟨0, 0, 0, ⟨#[]⟩, []⟩⟩
/-- A list of records, opened. -/
theorem open_records {r : Reach} {b0 : Nat} {v : Value} {d : DataW H} {ps : List MemPlace} (hv : Value.okWide Tryz.prog W r b0 31 v) (h : DataW.Trod enc Tryz.prog W base sp hd 31 v d ps) : ∃ (rs : List Rc.Rd) (a : Option Addr) (c : Nat), v = .slice a rs.length c ∧ Rc.RdA W a c rs := by
  obtain ⟨fuel, hf⟩ := h
  obtain ⟨a0, len, cap, rfl⟩ := okWide_slice Tryz.underlying31 hv
  obtain ⟨xs, a, c, e, h1, h2, b, o, h3, h4⟩ := open_list Tryz.underlying31 (show Tryz.prog.cellsOf 38 = 5 by kernel_rfl) (by omega) (RdC W) (fun n cs x hx => open_rec hx) (show DataW.trod enc Tryz.prog W base sp hd fuel 31 [.slice a0 len cap] = some (d, ps) from by simpa [Value.cells] using hf)
  refine ⟨xs, a, c, e, h1, h2, b, o, h3, fun j x hx => ?_⟩
  obtain ⟨cs, ⟨fa, fc, rfl, hs, _⟩, g⟩ := h4 j x hx
  exact ⟨g 0 (by omega), g 1 (by omega), g 2 (by omega), g 3 (by omega), ⟨fa, fc, g 4 (by omega), hs⟩⟩
/-- A machine integer of eight bits. -/
theorem wf_u8 {n : Int} (h : (Lit.int .u8 n).wf = true) : 0 ≤ n ∧ n ≤ 255 := by
  unfold Lit.wf at h
  rw [Bool.and_eq_true, decide_eq_true_iff, decide_eq_true_iff] at h
  exact h
theorem open_int14 {r : Reach} {b0 : Nat} {v : Value} {d : DataW H} {ps : List MemPlace} (hv : Value.okWide Tryz.prog W r b0 3 v) (h : DataW.Trod enc Tryz.prog W base sp hd 3 v d ps) : ∃ n : Int, v = .int .i64 n ∧ -9223372036854775808 ≤ n ∧ n ≤ 9223372036854775807 := by
  obtain ⟨n, e, _, _, hn⟩ := open_int Tryz.underlying3 hv h
  exact ⟨n, e, wf_i64 hn⟩
theorem open_u8 {r : Reach} {b0 : Nat} {v : Value} {d : DataW H} {ps : List MemPlace} (hv : Value.okWide Tryz.prog W r b0 5 v) (h : DataW.Trod enc Tryz.prog W base sp hd 5 v d ps) : ∃ n : Int, v = .int .u8 n ∧ 0 ≤ n ∧ n ≤ 255 := by
  obtain ⟨n, e, _, _, hn⟩ := open_int Tryz.underlying5 hv h
  exact ⟨n, e, wf_u8 hn⟩
end
end Go.Proofs.YtlinaeklhkfbcaaGreatDoor
