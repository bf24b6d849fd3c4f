/- The program's sorted and meet: what the calls return. -/
import Derived.Test.YtogpghpgnpoioaaGreatDoorKm
import Derived.Test.YtogpghpgnpoioaaGreatDoorKe
import Derived.Test.YtogpghpgnpoioaaGreatDoorShelfB
import Derived.Test.YtogpghpgnpoioaaGreatDoorKp
import Derived.Test.YtogpghpgnpoioaaGreatDoorKl
namespace Go.Proofs.YtogpghpgnpoioaaGreatDoor
open Go.RowKit
set_option maxRecDepth 100000

namespace Mt
theorem own_base {w : World} {B e size n : Nat} {v : Value} {xs : List Value} (h : w.ownsRow B e size v n xs) (k : Nat) (hk : v.ownBlock = some k) : B ≤ k := by
  rcases h.2 with ⟨rfl, _⟩ | ⟨g, cap, cur, rfl, hg, _⟩
  · cases hk
  · simp [Value.ownBlock] at hk; omega
/-- A list of texts in memory that the call made. -/
abbrev OwnL (w : World) (B : Nat) (v : Value) (l : List By) : Prop := w.ownsRow B 9 1 v l.length (Cp.strs l)
theorem OwnL.sla {w : World} {B : Nat} {v : Value} {l : List By} (h : OwnL w B v l) : ∃ a c, v = .slice a l.length c ∧ SLA w a c (mks l) := own_sla h
end Mt
theorem Clone_own {B : Nat} {v : Value} {l : List Mt.By} (w : World) (h : Mt.OwnL w B v l) (hl : l.length ≤ 1000000) :
    Calls Tryz.prog 60 #[v] w fun e w' => ∃ v', e = .returned v' ∧ Mt.OwnL w' w.heap.size v' l ∧ Below w.heap.size w w' := by
  have h' := h
  rcases h'.2 with ⟨rfl, h0⟩ | ⟨g, cap, cur, rfl, hbase, hb, h1, h2, h3, h4⟩
  · have hn := List.eq_nil_of_length_eq_zero h0
    subst hn
    exact (Tryz.slices_Clone_string_nil 0 0 w).mono fun e w' ⟨he, hw⟩ => ⟨_, he, World.ownsRow_nil _ _ _ _, hw ▸ Below.refl _ _⟩
  · by_cases h0 : l = []
    · subst h0
      exact (Tryz.slices_Clone_string_zero ⟨g, 0, none⟩ cap w).mono fun e w' ⟨v', he, ho, _, hb⟩ => ⟨v', he, ho, hb⟩
    · have hc := Tryz.slices_Clone_string g 0 l.length cap (Mt.mks l) w (by simp [Mt.mks]) (by omega) (fun j hj => by
        have hj' : j < l.length := by simpa [Mt.mks] using hj
        rw [Nat.zero_add, h.cellAt j (by omega), List.getElem?_map, List.getElem?_eq_getElem hj', List.getD_eq_getElem?_getD, List.getElem?_map, List.getElem?_eq_getElem hj']
        rfl)
      refine hc.mono ?_
      rintro e w' ⟨v', he, ho, _, hb⟩
      refine ⟨v', he, ?_, hb⟩
      rw [List.take_of_length_le (by simp [Mt.mks])] at ho
      simpa [Mt.OwnL, Mt.mks, Cp.strs, Function.comp_def] using ho
set_option maxHeartbeats 800000 in
theorem match_sorted_c {B : Nat} {v : Value} {l : List Mt.By} (w : World) (h : Mt.OwnL w B v l) (hl : l.length ≤ 1000000) :
    Calls Tryz.prog 38 #[v] w fun e w' => ∃ v', e = .returned v' ∧ Mt.OwnL w' w.heap.size v' (Cp.puts Cp.ltB l) ∧ Below w.heap.size w w' := by
  have HC := Lib.hid (Clone_own w h hl)
  have HP := Lib.hid (Cp.compact_sorted l)
  clear h
  go_enter Tryz.func38, Tryz.ntmps38
  go_wp2_with (first
    | (go_at_call 60; ((with_reducible refine HC.out.mono ?_); rintro e w1 ⟨v1, rfl, ho1, hb1⟩; have hs1 := hb1.size))
    | (go_at_call 61; ((with_reducible refine (SortS_c ho1 hl).mono ?_); rintro e w2 ⟨rfl, ho2, hg2⟩; have hb2 := hb1.grown hg2 hs1 (Mt.own_base ho1); have hs2 := hb2.size; have ho2b : Mt.OwnL w2 w.heap.size v1 (l.mergeSort fun x y => decide (x ≤ y)) := by unfold Mt.OwnL; rw [List.length_mergeSort]; exact ho2))
    | (go_at_call 62; ((with_reducible refine (CompactS_c ho2b (by rw [List.length_mergeSort]; exact hl)).mono ?_); rintro e w3 ⟨va, vc, rfl, ho3, _, hg3⟩; have hb3 := hb2.grown hg3 hs2 (Mt.own_base ho1); rw [HP.out] at ho3 ⊢)))
  go_ret
  exact ⟨_, rfl, ho3, hb3⟩
namespace Mt
/-- Where a text stands in an ascending list, or would stand. -/
theorem asc_split : ∀ (B : List By), Cp.Asc Cp.ltB B → ∀ x : By, ∃ k, k ≤ B.length ∧ (∀ (t : Nat) (y : By), t < k → B[t]? = some y → Cp.ltB y x = true) ∧ (∀ (t : Nat) (y : By), k ≤ t → B[t]? = some y → Cp.ltB y x = false)
  | [], _, x => ⟨0, Nat.le_refl _, fun t y h => absurd h (Nat.not_lt_zero _), fun t y _ h => by cases h⟩
  | z :: r, ha, x => by
    rw [Cp.Asc, List.pairwise_cons] at ha
    cases hz : Cp.ltB z x with
    | false =>
      refine ⟨0, Nat.zero_le _, fun t y h => absurd h (Nat.not_lt_zero _), fun t y _ h => ?_⟩
      cases t with
      | zero => simp at h; rw [← h]; exact hz
      | succ t =>
        have hm := ha.1 y (List.mem_of_getElem? (by simpa using h))
        cases hy : Cp.ltB y x with
        | false => rfl
        | true => rw [Cp.ordB.tr hm hy] at hz; cases hz
    | true =>
      obtain ⟨k, h1, h2, h3⟩ := asc_split r ha.2 x
      refine ⟨k + 1, by simpa using h1, fun t y ht h => ?_, fun t y ht h => ?_⟩
      · cases t with
        | zero => simp at h; rw [← h]; exact hz
        | succ t => exact h2 t y (by omega) (by simpa using h)
      · cases t with
        | zero => omega
        | succ t => exact h3 t y (by omega) (by simpa using h)
theorem mem_split {B : List By} (ha : Cp.Asc Cp.ltB B) {x : By} {k : Nat} (h2 : ∀ (t : Nat) (y : By), t < k → B[t]? = some y → Cp.ltB y x = true) (h3 : ∀ (t : Nat) (y : By), k ≤ t → B[t]? = some y → Cp.ltB y x = false) : x ∈ B ↔ B[k]? = some x := by
  constructor
  · intro hx
    obtain ⟨t, ht, e⟩ := List.getElem_of_mem hx
    have he : B[t]? = some x := by rw [← e]; exact List.getElem?_eq_getElem ht
    rcases (by omega : t < k ∨ t = k ∨ k < t) with h | h | h
    · have := h2 t x h he
      rw [Cp.ordB.irr x] at this; cases this
    · rw [← h]; exact he
    · have hk : k < B.length := by omega
      have hp := List.pairwise_iff_getElem.1 ha k t hk ht h
      rw [e] at hp
      rw [h3 k _ (Nat.le_refl _) (List.getElem?_eq_getElem hk)] at hp
      cases hp
  · exact fun h => List.mem_of_getElem? h
theorem mks_get {B : List By} {t : Nat} {y : By} (h : B[t]? = some y) : (mks B)[t]? = some ⟨y.toArray⟩ := by
  unfold mks; rw [List.getElem?_map, h]; rfl
theorem mk_inj {a b : ByteArray} (h : a.data.toList = b.data.toList) : a = b := by
  rw [mk_list a, mk_list b, h]
end Mt
theorem search_c (B : List Mt.By) (a : Option Addr) (c : Nat) (x : ByteArray) (w : World) (h : SLA w a c (Mt.mks B)) (ha : Cp.Asc Cp.ltB B) (hl : B.length ≤ 1000000) :
    Calls Tryz.prog 70 #[.slice a B.length c, .string x] w fun e w' => ∃ i : Int, e = .returned (.tuple #[.int .i64 i, .bool (decide (x.data.toList ∈ B))]) ∧ Below w.heap.size w w' := by
  by_cases hne : B = []
  · subst hne
    exact (Any2.slices_BinarySearch_string_empty Tryz.searchStr a c x w).mono fun e w' ⟨he, hw⟩ => ⟨0, he, hw ▸ Below.refl _ _⟩
  · obtain ⟨b, o, h1, h2⟩ := h.at_
    obtain ⟨rfl, _⟩ := h1 (by intro h9; exact hne (List.map_eq_nil_iff.1 h9))
    obtain ⟨k, hk, g2, g3⟩ := Mt.asc_split B ha x.data.toList
    have hm := Mt.mem_split ha g2 g3
    have hs := Any2.slices_BinarySearch_string Tryz.searchStr b o B.length c (fun t => ((Mt.mks B)[t]?).getD x) x w (by omega) (fun j hj => by
      have hj2 : j < (Mt.mks B).length := by simpa [Mt.mks] using hj
      show _ = some (Value.string (((Mt.mks B)[j]?).getD x))
      rw [List.getElem?_eq_getElem hj2]
      exact h2 j _ (List.getElem?_eq_getElem hj2))
    have hb : Lib.bsGo (fun t => Op.bytesLess (((Mt.mks B)[t]?).getD x).toList x.toList) B.length 0 B.length = k := by
      refine Lib.bsGo_spec _ k (fun t ht => ?_) (fun t ht => ?_) _ _ _ (Nat.le_refl _) (Nat.zero_le _) hk
      · have hy : B[t]? = some (B[t]'(by omega)) := List.getElem?_eq_getElem _
        rw [Mt.mks_get hy, Go.Proofs.bytesLess_eq, Lib.toList_data, Lib.toList_data]
        exact g2 t _ ht hy
      · rw [Go.Proofs.bytesLess_eq, Lib.toList_data, Lib.toList_data]
        by_cases htl : t < B.length
        · have hy : B[t]? = some (B[t]'htl) := List.getElem?_eq_getElem _
          rw [Mt.mks_get hy]
          exact g3 t _ ht hy
        · rw [List.getElem?_eq_none (by simp [Mt.mks]; omega)]
          exact decide_eq_false (List.lt_irrefl _)
    rw [hb] at hs
    have hd : decide (k < B.length ∧ ((Mt.mks B)[k]?).getD x = x) = decide (x.data.toList ∈ B) := by
      rw [Bool.eq_iff_iff, decide_eq_true_eq, decide_eq_true_eq, hm]
      constructor
      · rintro ⟨h3, h4⟩
        have hy : B[k]? = some (B[k]'h3) := List.getElem?_eq_getElem _
        rw [Mt.mks_get hy] at h4
        rw [hy, ← h4]
        rfl
      · intro h3
        refine ⟨(List.getElem?_eq_some_iff.1 h3).1, ?_⟩
        rw [Mt.mks_get h3]
        exact Mt.mk_inj rfl
    exact hs.mono fun e w' ⟨he, q, hw⟩ => ⟨(k : Int), by rw [he, hd], by rw [hw]; exact Tx.below_drewN (Below.refl _ _) q⟩
set_option maxHeartbeats 800000 in
theorem meet_in_c (B : List Mt.By) (a : Option Addr) (c bx : Nat) (x : ByteArray) (w : World) (hc : w.cell? ⟨bx, 0, none⟩ = some (.slice a B.length c)) (h : SLA w a c (Mt.mks B)) (ha : Cp.Asc Cp.ltB B) (hl : B.length ≤ 1000000) :
    Calls Tryz.prog 69 #[.string x, .pointer (some ⟨bx, 0, none⟩)] w fun e w' => e = .returned (.bool (decide (x.data.toList ∈ B))) ∧ Below w.heap.size w w' := by
  have HS := Lib.hid (search_c B a c x w h ha hl)
  obtain ⟨q, hq⟩ : ∃ q, decide (x.data.toList ∈ B) = q := ⟨_, rfl⟩
  rw [hq] at HS ⊢
  clear h hq
  go_enter Tryz.func69, Tryz.ntmps69
  go_wp2_with (go_at_call 70; ((with_reducible refine HS.out.mono ?_); rintro e w1 ⟨i, rfl, hb1⟩))
  go_ret
  exact ⟨rfl, hb1⟩
theorem meet_in_enters : ∀ args w, (callFunc 69 args).run Tryz.prog w = .ok (.enter 69 args) w := enters_of Tryz.func69 (by kernel_rfl) rfl
set_option maxHeartbeats 800000 in
theorem has_str (g : Nat) (lb : Array Value) (eg : ∀ args w, (callFunc g args).run Tryz.prog w = .ok (.enter g args) w) (p : Mt.By → Bool) (xs : List ByteArray) (a : Option Addr) (c : Nat) (w : World) (h : SLA w a c xs)
    (hp : ∀ x ∈ xs, ∀ w', Below w.heap.size w w' → Calls Tryz.prog g (#[.string x] ++ lb) w' fun e w'' => e = .returned (.bool (p x.data.toList)) ∧ Below w.heap.size w w'') :
    Calls Tryz.prog 68 #[.slice a xs.length c, .func (.func g) #[] lb] w fun e w' => e = .returned (.bool (xs.any fun x => p x.data.toList)) ∧ Below w.heap.size w w' := by
  obtain ⟨r, hr⟩ := Mt.idx_ex p xs
  have IC : Hid (Calls Tryz.prog 90 #[.slice a xs.length c, .func (.func g) #[] lb] w fun e w' => e = .returned (.int .i64 r) ∧ Below w.heap.size w w') := Lib.hid (by
    refine (idx_str g lb eg p xs a c w h hp).mono ?_
    rintro e w' ⟨q, rfl, hq, hb⟩
    exact ⟨by rw [Mt.idx_uniq hq hr], hb⟩)
  have hv : (xs.any fun x => p x.data.toList) = decide (0 ≤ r) := by
    rcases hr with ⟨rfl, hr⟩ | ⟨k, x, rfl, h1, h2, _⟩
    · rw [List.any_eq_false.2 (fun x hx => by rw [hr x hx]; simp)]; rfl
    · rw [List.any_eq_true.2 ⟨x, List.mem_of_getElem? h1, h2⟩]; simp
  rw [hv]
  clear hp h hr hv
  go_enter Tryz.func68, Tryz.ntmps68
  go_wp2_with (go_at_call 90; ((with_reducible refine IC.out.mono ?_); rintro e w1 ⟨rfl, hb1⟩))
  go_ret
  exact ⟨Tx.retb (by first | rfl | simp), hb1⟩
set_option maxHeartbeats 800000 in
theorem match_meet_c (A B : List Mt.By) (aa ab : Option Addr) (ca cb : Nat) (w : World) (hA : SLA w aa ca (Mt.mks A)) (hB : SLA w ab cb (Mt.mks B)) (hs : Cp.Asc Cp.ltB B) (hl : B.length ≤ 1000000) :
    Calls Tryz.prog 41 #[.slice aa A.length ca, .slice ab B.length cb] w fun e w' => e = .returned (.bool (Mt.meet A B)) ∧ Below w.heap.size w w' := by
  obtain ⟨W, hW⟩ : ∃ W, w.alloc (.cells #[.slice ab B.length cb] 36) = W := ⟨_, rfl⟩
  have hbW : Below w.heap.size w W := by rw [← hW]; exact Tx.newb _ _
  have c0 : W.cell? ⟨w.heap.size, 0, none⟩ = some (.slice ab B.length cb) := by rw [← hW]; simp
  have hc := has_str 69 #[.pointer (some ⟨w.heap.size, 0, none⟩)] meet_in_enters (fun y => decide (y ∈ B)) (Mt.mks A) aa ca W (hA.below hbW) (fun x _ w' hb' => (meet_in_c B ab cb w.heap.size x w' (cell_later hb' c0) ((hB.below hbW).below hb') hs hl).mono fun e w'' ⟨he, hb''⟩ => ⟨he, Tx.step hb' hb''⟩)
  have hany : ((Mt.mks A).any fun x => decide (x.data.toList ∈ B)) = Mt.meet A B := by
    unfold Mt.meet Mt.mks
    rw [List.any_map]
    rfl
  rw [hany, show (Mt.mks A).length = A.length by simp [Mt.mks]] at hc
  have HC := Lib.hid hc
  clear hc hany hA hB c0
  go_enter Tryz.func41, Tryz.ntmps41
  go_wp2_with (go_at_call 68; ((with_reducible refine HC.out.mono ?_); rintro e w1 ⟨rfl, hb1⟩))
  go_ret
  exact ⟨rfl, Tx.step hbW hb1⟩
end Go.Proofs.YtogpghpgnpoioaaGreatDoor

/- The program's Keys of a record: what the call returns. -/
namespace Go.Proofs.YtogpghpgnpoioaaGreatDoor
open Go.RowKit
set_option maxRecDepth 100000

theorem Mt.own_le {w : World} {B B' : Nat} {v : Value} {l : List Mt.By} (h : Mt.OwnL w B v l) (hB : B' ≤ B) : Mt.OwnL w B' v l :=
  ⟨h.1, by
    rcases h.2 with h1 | ⟨g, cap, cur, h1, h2, h3⟩
    · exact .inl h1
    · exact .inr ⟨g, cap, cur, h1, Nat.le_trans hB h2, h3⟩⟩
set_option maxHeartbeats 1600000 in
theorem match_Keys_c (m : Mt.Key) (fs : List Rc.Fl) (a : Option Addr) (c : Nat) (id ver kind : Int) (lang : ByteArray) (w : World) (hG : G w) (h : Rc.FldA w a c fs) (hF : Mt.Gf fs) (hn : 0 ≤ m.norm ∧ m.norm ≤ 4) :
    Calls Tryz.prog 17 #[.agg #[.string m.tag, .int .u8 m.code.toNat, .int .i64 m.norm, .int .i64 m.weight], .agg #[.int .i64 id, .int .i64 ver, .int .i64 kind, .string lang, .slice a fs.length c]] w fun e w' => ∃ v, e = .returned v ∧ Mt.OwnL w' w.heap.size v (Mt.keys m fs) ∧ Below w.heap.size w w' := by
  have hml : maxLen = 9223372036854775807 := rfl
  obtain ⟨i0, hi0, hz0, hz1, hz2⟩ := info_parts info_str
  obtain ⟨W, hW⟩ : ∃ W, (w.alloc (.cells #[.string m.tag, .int .u8 m.code.toNat, .int .i64 m.norm, .int .i64 m.weight] 39)).alloc (.cells #[.int .i64 id, .int .i64 ver, .int .i64 kind, .string lang, .slice a fs.length c] 33) = W := ⟨_, rfl⟩
  have hB : Below w.heap.size w W := by rw [← hW]; exact (Tx.newb _ _).alloc (Tx.newb w _).size _
  have hBs := hB.size
  have hWs : W.heap.size = w.heap.size + 2 := by rw [← hW]; simp
  have k0 : W.cell? ⟨w.heap.size, 0, none⟩ = some (.string m.tag) := by rw [← hW]; simp
  have k1 : W.cell? ⟨w.heap.size, 1, none⟩ = some (.int .u8 m.code.toNat) := by rw [← hW]; simp
  have k2 : W.cell? ⟨w.heap.size, 2, none⟩ = some (.int .i64 m.norm) := by rw [← hW]; simp
  have r4 : W.cell? ⟨w.heap.size + 1, 4, none⟩ = some (.slice a fs.length c) := by rw [← hW]; simp
  have HS := Lib.hid (h.below hB)
  have hGW := hG.below hB
  have hfl := hF.1
  have HF := Lib.hid hF.2
  have hcap := h.cap
  have hmax := h.max
  have HWS := Lib.hid hWs
  clear h hF hG hWs
  go_enter Tryz.func17, Tryz.ntmps17
  go_wp2
  clear hW
  go_loopw [5, 14] (fun v i wr => ∃ (k : Nat) (L : List Mt.By), k ≤ fs.length ∧ i = .int .i64 k ∧ Hid (L = Mt.vals m (fs.take k)) ∧ L.length ≤ k * 1000 ∧ Hid (Mt.OwnL wr W.heap.size v L) ∧ Below W.heap.size W wr) (fun _ i _ => fs.length - (intOf i).toNat)
  case atStart => exact ⟨0, [], Nat.zero_le _, rfl, Lib.hid rfl, Nat.zero_le _, Lib.hid (World.ownsRow_nil _ _ _ _), Below.refl _ _⟩
  case round =>
    obtain ⟨k, L, hk, rfl, hL, hLk, hGot, hb⟩ := hrel
    have hbs := hb.size
    have hWs := HWS.out
    have hl0 : w.heap.size < wr.heap.size := by omega
    have hl1 : w.heap.size + 1 < wr.heap.size := by omega
    clear hWs
    have q0 := cell_later hb k0
    have q1 := cell_later hb k1
    have q2 := cell_later hb k2
    have q4 := cell_later hb r4
    by_cases hlt : k < fs.length
    · obtain ⟨f, hf⟩ : ∃ f, fs[k]? = some f := ⟨_, List.getElem?_eq_getElem hlt⟩
      have hgd := HF.out f (List.mem_of_getElem? hf)
      obtain ⟨b, o, sa, sc, rfl, hbl, d0, d1, d2, d3, hsub⟩ := HS.out.get hf
      replace d0 := cell_later hb d0
      replace d1 := cell_later hb d1
      replace d2 := cell_later hb d2
      replace d3 := cell_later hb d3
      have hbl2 : b < wr.heap.size := by omega
      have hvs := Mt.vals_succ m hf
      rw [← Mt.valsN_all] at hvs
      have HVS := Lib.hid hvs; clear hvs hf
      have hsl := hgd.1
      have HGD := Lib.hid hgd.2; clear hgd
      by_cases ht : f.tag.data.toList = m.tag.data.toList
      · have ht2 := Mt.str_eq ht
        have HSB := Lib.hid hsub
        have hscap := hsub.cap
        have hsmax := hsub.max
        clear hsub
        have hbV : Below W.heap.size W (wr.alloc (.cells #[.string f.tag, .string f.ind, .slice sa f.subs.length sc, .int .i64 f.auth] 57)) := hb.alloc hbs _
        have hG1 := Lib.hid (hGot.out.alloc (.cells #[.string f.tag, .string f.ind, .slice sa f.subs.length sc, .int .i64 f.auth] 57))
        have HVN : Hid (∀ (j : Nat) (x : UInt8 × ByteArray), f.subs[j]? = some x → Mt.valsN m f (j + 1) = Mt.valsN m f j ++ Mt.valS m x) := Lib.hid (fun j x hx => by rw [Mt.valsN_succ m hx, if_pos ht])
        clear hGot
        go_wp2
        generalize wr.alloc (.cells #[.string f.tag, .string f.ind, .slice sa f.subs.length sc, .int .i64 f.auth] 57) = V1 at hbV hG1 ⊢
        go_loopw [5, 26] (fun v i wx => ∃ (j : Nat) (L2 : List Mt.By), j ≤ f.subs.length ∧ i = .int .i64 j ∧ Hid (L2 = Mt.vals m (fs.take k) ++ Mt.valsN m f j) ∧ L2.length ≤ k * 1000 + j ∧ Hid (Mt.OwnL wx W.heap.size v L2) ∧ Below W.heap.size W wx) (fun _ i _ => f.subs.length - (intOf i).toNat)
        case atStart => exact ⟨0, L, Nat.zero_le _, rfl, Lib.hid (by rw [Mt.valsN_zero, List.append_nil]; exact hL.out), by omega, hG1, hbV⟩
        case round =>
          obtain ⟨j, L2, hj, rfl, hL2, hLj, hGot2, hbx⟩ := hrel
          have hbxs := hbx.size
          have p1 := cell_later hbx k1
          have p2 := cell_later hbx k2
          by_cases hjl : j < f.subs.length
          · obtain ⟨x, hx⟩ : ∃ x, f.subs[j]? = some x := ⟨_, List.getElem?_eq_getElem hjl⟩
            obtain ⟨sb, so, rfl, hsbl, s0, s1⟩ := (HSB.out.below hbx).get hx
            have hxg := HGD.out x (List.mem_of_getElem? hx)
            have hvn := HVN.out j x hx
            have hLn : L2.length ≤ 1000000 := by omega
            obtain ⟨U, hU⟩ : ∃ U, wr.alloc (.cells #[.int .u8 x.1.toNat, .string x.2] 66) = U := ⟨_, rfl⟩
            have hbU : Below W.heap.size W U := by rw [← hU]; exact hbx.alloc hbxs _
            have hbUs := hbU.size
            have u0 : U.cell? ⟨wr.heap.size, 0, none⟩ = some (.int .u8 x.1.toNat) := by rw [← hU]; simp
            have u1 : U.cell? ⟨wr.heap.size, 1, none⟩ = some (.string x.2) := by rw [← hU]; simp
            have t1 := cell_later hbU k1
            have t2 := cell_later hbU k2
            have hoU := hGot2.out.alloc (.cells #[.int .u8 x.1.toNat, .string x.2] 66)
            rw [hU] at hoU
            have NC := normal_c m.norm x.2 U (hGW.below hbU) hxg.1 hxg.2 hn
            obtain ⟨V, hV⟩ : ∃ V, Mt.norm m.norm x.2.data.toList = V := ⟨_, rfl⟩
            rw [hV] at NC
            have HNC := Lib.hid NC
            unfold Mt.valS at hvn
            rw [hV] at hvn
            have HOU := Lib.hid hoU
            clear NC hoU hV hx hxg hGot2
            by_cases hc : x.1 = m.code
            · have hc2 : ((x.1.toNat : Int) == (m.code.toNat : Int)) = true := by rw [hc]; exact beq_self_eq_true _
              rw [if_pos hc] at hvn
              by_cases hVe : V = []
              · rw [if_pos hVe, List.append_nil] at hvn
                have HN : Hid (L2 = Mt.vals m (fs.take k) ++ Mt.valsN m f (j + 1)) := Lib.hid (by rw [hvn]; exact hL2.out)
                subst hVe
                clear hvn hc hL2
                go_wp2_with (go_at_call 37; ((with_reducible refine HNC.out.mono ?_); rintro e w7 ⟨rfl, hb7⟩; replace u0 := cell_later hb7 u0; replace t1 := cell_later hb7 t1))
                go_roundw
                case rel => exact ⟨j + 1, L2, hjl, by go_num, HN, by omega, Lib.hid (own_below HOU.out hb7), Tx.step hbU hb7⟩
                case measure => simp [intOf]; omega
              · rw [if_neg hVe] at hvn
                have HN : Hid (L2 ++ [V] = Mt.vals m (fs.take k) ++ Mt.valsN m f (j + 1)) := Lib.hid (by rw [hvn, ← List.append_assoc, ← hL2.out])
                have hVi : V.isEmpty = false := by cases V <;> simp_all
                clear hvn hc hL2 hVe
                go_wp2_with (first
                  | (go_at_call 37; ((with_reducible refine HNC.out.mono ?_); rintro e w7 ⟨rfl, hb7⟩; replace u0 := cell_later hb7 u0; replace t1 := cell_later hb7 t1; have own7 := own_below HOU.out hb7; have hb7W := Tx.step hbU hb7; have s7 := hb7W.size))
                  | (at_builtin; go_must ((refine wpList_append_sl rfl _ _ 36 rfl W.heap.size 9 i0 _ 1 16 Tryz.underlying36 hi0 hz0 hz1 hz2 rfl (by decide) _ L2.length _ rfl (own7.alloc _) (some ⟨_, 0, none⟩) 1 1 [Value.string ⟨V.toArray⟩] rfl rfl (fun h9 => by cases h9) (fun ad had => by cases had; exact Br.cells_new_at _ _ (by first | rfl | simp) _ _) (by simp [Value.oneCell']) (by unfold maxLen; omega) (by omega) (by simp; omega) ?_); intro v' w8 hown8 hg8 hnil8)))
                go_roundw
                case rel => exact ⟨j + 1, L2 ++ [V], hjl, by go_num, HN, by simp; omega, Lib.hid (by unfold Mt.OwnL; rw [List.length_append, Cp.strs, List.map_append]; exact hown8), (hb7W.alloc s7 _).grown hg8 (by simp; omega) (fun i hi => (own7.lt i hi).1)⟩
                case measure => simp [intOf]; omega
            · have hc2 : ((x.1.toNat : Int) == (m.code.toNat : Int)) = false := beq_eq_false_iff_ne.2 (fun h9 => hc (UInt8.toNat.inj (by omega)))
              rw [if_neg hc, List.append_nil] at hvn
              have HN : Hid (L2 = Mt.vals m (fs.take k) ++ Mt.valsN m f (j + 1)) := Lib.hid (by rw [hvn]; exact hL2.out)
              clear hvn hc hL2
              go_wp2_with (go_at_call 37; ((with_reducible refine HNC.out.mono ?_); rintro e w7 ⟨rfl, hb7⟩; replace u0 := cell_later hb7 u0; replace t1 := cell_later hb7 t1))
              go_roundw
              case rel => exact ⟨j + 1, L2, hjl, by go_num, HN, by omega, Lib.hid (own_below HOU.out hb7), Tx.step hbU hb7⟩
              case measure => simp [intOf]; omega
          · obtain rfl : j = f.subs.length := by omega
            have HN : Hid (L2 = Mt.vals m (fs.take (k + 1))) := Lib.hid (by rw [HVS.out]; exact hL2.out)
            clear hL2
            go_wp2
            go_roundw
            case rel => exact ⟨k + 1, L2, hlt, by go_num, HN, by omega, hGot2, hbx⟩
            case measure => simp [intOf]; omega
      · have ht2 := Mt.str_ne ht
        have HN : Hid (L = Mt.vals m (fs.take (k + 1))) := Lib.hid (by
          rw [HVS.out, hL.out]
          unfold Mt.valsN
          rw [if_neg ht, List.append_nil])
        have hG2 := Lib.hid (hGot.out.alloc (.cells #[.string f.tag, .string f.ind, .slice sa f.subs.length sc, .int .i64 f.auth] 57))
        clear hL ht hsub hGot
        go_wp2
        go_roundw
        case rel => exact ⟨k + 1, L, hlt, by go_num, HN, by omega, hG2, hb.alloc hbs _⟩
        case measure => simp [intOf]; omega
    · obtain rfl : k = fs.length := by omega
      have hK : Cp.puts Cp.ltB L = Mt.keys m fs := by rw [hL.out, List.take_length]; rfl
      have HK := Lib.hid hK
      have HSO := Lib.hid (match_sorted_c wr hGot.out (by omega))
      clear hK hL hGot
      go_wp2_with (go_at_call 38; ((with_reducible refine HSO.out.mono ?_); rintro e w9 ⟨v9, rfl, ho9, hb9⟩; rw [HK.out] at ho9))
      go_ret
      exact ⟨_, rfl, Mt.own_le ho9 (by omega), Tx.step hB (Tx.step hb hb9)⟩
end Go.Proofs.YtogpghpgnpoioaaGreatDoor

/- The program's Score: what the call returns. -/
namespace Go.Proofs.YtogpghpgnpoioaaGreatDoor
open Go.RowKit
set_option maxRecDepth 100000

namespace Mt
theorem puts_len {α : Type} [DecidableEq α] (lt : α → α → Bool) (l : List α) : (Cp.puts lt l).length ≤ l.length := by
  have h : ∀ (l acc : List α), (l.foldl (Cp.put lt) acc).length ≤ acc.length + l.length := by
    intro l
    induction l with
    | nil => intro acc; simp
    | cons x r ih =>
      intro acc
      have h1 := ih (Cp.put lt acc x)
      have h2 := put_len lt x acc
      simp only [List.foldl_cons, List.length_cons]
      omega
  have := h l []
  simpa [Cp.puts] using this
theorem valS_len (k : Key) (x : UInt8 × ByteArray) : (valS k x).length ≤ 1 := by
  unfold valS
  split
  · split <;> simp
  · simp
theorem subs_len (k : Key) (l : List (UInt8 × ByteArray)) : (l.flatMap (valS k)).length ≤ l.length := by
  induction l with
  | nil => simp
  | cons x r ih => rw [List.flatMap_cons, List.length_append, List.length_cons]; have := valS_len k x; omega
theorem vals_len (k : Key) : ∀ fs : List Rc.Fl, (∀ f ∈ fs, Rc.Gd f) → (vals k fs).length ≤ fs.length * 1000
  | [], _ => by simp [vals]
  | f :: r, h => by
    have ih := vals_len k r (fun g hg => h g (List.mem_cons_of_mem _ hg))
    have hf := (h f (List.mem_cons_self ..)).1
    have e : vals k (f :: r) = valsF k f ++ vals k r := rfl
    have hs : (valsF k f).length ≤ f.subs.length := by
      rw [valsF_eq]
      split
      · exact subs_len k f.subs
      · simp
    rw [e, List.length_append, List.length_cons]
    omega
theorem keys_len (k : Key) {fs : List Rc.Fl} (h : Gf fs) : (keys k fs).length ≤ 1000000 := by
  have h1 := puts_len Cp.ltB (vals k fs)
  have h2 := vals_len k fs h.2
  have h3 := h.1
  unfold keys
  omega
end Mt

set_option maxHeartbeats 1600000 in
theorem match_Score_c (m : Mt.Rule) (ka : Option Addr) (kc : Nat) (fs : List Rc.Fl) (a : Option Addr) (c : Nat) (id ver kind : Int) (lang : ByteArray) (fs2 : List Rc.Fl) (a2 : Option Addr) (c2 : Nat) (id2 ver2 kind2 : Int) (lang2 : ByteArray) (w : World) (hGw : G w) (hK : Mt.KyA w ka kc m.keys) (hm : Mt.Gm m) (h : Rc.FldA w a c fs) (hG : Mt.Gf fs) (h2 : Rc.FldA w a2 c2 fs2) (hG2 : Mt.Gf fs2) :
    Calls Tryz.prog 19 #[.agg #[.slice ka m.keys.length kc, .int .i64 m.need], .agg #[.int .i64 id, .int .i64 ver, .int .i64 kind, .string lang, .slice a fs.length c], .agg #[.int .i64 id2, .int .i64 ver2, .int .i64 kind2, .string lang2, .slice a2 fs2.length c2]] w fun e w' => e = .returned (.int .i64 (Mt.sumS m.keys fs fs2)) ∧ Below w.heap.size w w' := by
  have hml : maxLen = 9223372036854775807 := rfl
  obtain ⟨W2, hW2⟩ : ∃ W2, (w.alloc (.cells #[.slice ka m.keys.length kc, .int .i64 m.need] 24)).alloc (.cells #[.int .i64 id, .int .i64 ver, .int .i64 kind, .string lang, .slice a fs.length c] 33) = W2 := ⟨_, rfl⟩
  have hB2 : Below w.heap.size w W2 := by rw [← hW2]; exact (Tx.newb _ _).alloc (Tx.newb w _).size _
  have hsz2 : W2.heap.size = w.heap.size + 2 := by rw [← hW2]; simp
  have m0 : W2.cell? ⟨w.heap.size, 0, none⟩ = some (.slice ka m.keys.length kc) := by rw [← hW2]; simp
  have m1 : W2.cell? ⟨w.heap.size, 1, none⟩ = some (.int .i64 m.need) := by rw [← hW2]; simp
  have p0 : W2.cell? ⟨w.heap.size + 1, 0, none⟩ = some (.int .i64 id) := by rw [← hW2]; simp
  have p1 : W2.cell? ⟨w.heap.size + 1, 1, none⟩ = some (.int .i64 ver) := by rw [← hW2]; simp
  have p2 : W2.cell? ⟨w.heap.size + 1, 2, none⟩ = some (.int .i64 kind) := by rw [← hW2]; simp
  have p3 : W2.cell? ⟨w.heap.size + 1, 3, none⟩ = some (.string lang) := by rw [← hW2]; simp
  have p4 : W2.cell? ⟨w.heap.size + 1, 4, none⟩ = some (.slice a fs.length c) := by rw [← hW2]; simp
  obtain ⟨W, hW⟩ : ∃ W, W2.alloc (.cells #[.int .i64 id2, .int .i64 ver2, .int .i64 kind2, .string lang2, .slice a2 fs2.length c2] 33) = W := ⟨_, rfl⟩
  have hBn : Below W2.heap.size W2 W := by rw [← hW]; exact Tx.newb _ _
  have hB := Tx.step hB2 hBn
  have hBs := hB.size
  have q0 : W.cell? ⟨w.heap.size + 2, 0, none⟩ = some (.int .i64 id2) := by rw [← hW, ← hsz2]; simp
  have q1 : W.cell? ⟨w.heap.size + 2, 1, none⟩ = some (.int .i64 ver2) := by rw [← hW, ← hsz2]; simp
  have q2 : W.cell? ⟨w.heap.size + 2, 2, none⟩ = some (.int .i64 kind2) := by rw [← hW, ← hsz2]; simp
  have q3 : W.cell? ⟨w.heap.size + 2, 3, none⟩ = some (.string lang2) := by rw [← hW, ← hsz2]; simp
  have q4 : W.cell? ⟨w.heap.size + 2, 4, none⟩ = some (.slice a2 fs2.length c2) := by rw [← hW, ← hsz2]; simp
  replace m0 := cell_later hBn m0
  replace p0 := cell_later hBn p0
  replace p1 := cell_later hBn p1
  replace p2 := cell_later hBn p2
  replace p3 := cell_later hBn p3
  replace p4 := cell_later hBn p4
  rw [← hW2] at hW
  clear hW2 hBn hB2 hsz2 m1
  have HK := Lib.hid (hK.below hB)
  have HF := Lib.hid (h.below hB)
  have HF2 := Lib.hid (h2.below hB)
  have HG := Lib.hid hG
  have HG2 := Lib.hid hG2
  have hm8 := hm.1
  have HM := Lib.hid hm.2.1
  have hcap := hK.cap
  have hmax := hK.max
  have HGW := Lib.hid (hGw.below hB)
  clear h h2 hG hG2 hK hm hGw
  go_enter Tryz.func19, Tryz.ntmps19
  go_wp2
  clear hW
  go_loopw [7, 13] (fun v i wr => ∃ (k : Nat) (s : Int), k ≤ m.keys.length ∧ i = .int .i64 k ∧ v = .int .i64 s ∧ Hid (s = Mt.sumS (m.keys.take k) fs fs2) ∧ Below W.heap.size W wr) (fun _ i _ => m.keys.length - (intOf i).toNat)
  case atStart => exact ⟨0, 0, Nat.zero_le _, rfl, rfl, Lib.hid rfl, Below.refl _ _⟩
  case round =>
    obtain ⟨k, s, hk, rfl, rfl, hs, hb⟩ := hrel
    have hsb := Mt.sumS_in (x := fs) (y := fs2) (m.keys.take k) (fun z hz => HM.out z (List.mem_of_mem_take hz))
    rw [← hs.out, List.length_take] at hsb
    have hbs := hb.size
    have hbw := Tx.step hB hb
    replace m0 := cell_later hb m0
    replace p0 := cell_later hb p0
    replace p1 := cell_later hb p1
    replace p2 := cell_later hb p2
    replace p3 := cell_later hb p3
    replace p4 := cell_later hb p4
    replace q0 := cell_later hb q0
    replace q1 := cell_later hb q1
    replace q2 := cell_later hb q2
    replace q3 := cell_later hb q3
    replace q4 := cell_later hb q4
    by_cases hlt : k < m.keys.length
    · obtain ⟨y, hy⟩ : ∃ y, m.keys[k]? = some y := ⟨_, List.getElem?_eq_getElem hlt⟩
      have hgk := HM.out y (List.mem_of_getElem? hy)
      obtain ⟨kb, ko, rfl, hkl, k0, k1, k2, k3⟩ := Mt.key_at (HK.out.below hb) hy
      have hss := Mt.sumS_succ hy fs fs2
      rw [← hs.out] at hss
      unfold Mt.ptS at hss
      obtain ⟨U, hU⟩ : ∃ U, wr.alloc (.cells #[.string y.tag, .int .u8 y.code.toNat, .int .i64 y.norm, .int .i64 y.weight] 39) = U := ⟨_, rfl⟩
      have hbU : Below wr.heap.size wr U := by rw [← hU]; exact Tx.newb _ _
      have l0 : U.cell? ⟨wr.heap.size, 0, none⟩ = some (.string y.tag) := by rw [← hU]; simp
      have l1 : U.cell? ⟨wr.heap.size, 1, none⟩ = some (.int .u8 y.code.toNat) := by rw [← hU]; simp
      have l2 : U.cell? ⟨wr.heap.size, 2, none⟩ = some (.int .i64 y.norm) := by rw [← hU]; simp
      have l3 : U.cell? ⟨wr.heap.size, 3, none⟩ = some (.int .i64 y.weight) := by rw [← hU]; simp
      have p0' := cell_later hbU p0
      have p1' := cell_later hbU p1
      have p2' := cell_later hbU p2
      have p3' := cell_later hbU p3
      have p4' := cell_later hbU p4
      have q0' := cell_later hbU q0
      have q1' := cell_later hbU q1
      have q2' := cell_later hbU q2
      have q3' := cell_later hbU q3
      have q4' := cell_later hbU q4
      have hbWU := Tx.step hb hbU
      have KA : ∀ w', Below U.heap.size U w' → Calls Tryz.prog 17 #[.agg #[.string y.tag, .int .u8 y.code.toNat, .int .i64 y.norm, .int .i64 y.weight], .agg #[.int .i64 id, .int .i64 ver, .int .i64 kind, .string lang, .slice a fs.length c]] w' fun e w'' => ∃ v, e = .returned v ∧ Mt.OwnL w'' w'.heap.size v (Mt.keys y fs) ∧ Below w'.heap.size w' w'' := fun w' hb' =>
        match_Keys_c y fs a c id ver kind lang w' ((HGW.out.below hbWU).below hb') ((HF.out.below hbWU).below hb') HG.out hgk.1
      have KB : ∀ w', Below U.heap.size U w' → Calls Tryz.prog 17 #[.agg #[.string y.tag, .int .u8 y.code.toNat, .int .i64 y.norm, .int .i64 y.weight], .agg #[.int .i64 id2, .int .i64 ver2, .int .i64 kind2, .string lang2, .slice a2 fs2.length c2]] w' fun e w'' => ∃ v, e = .returned v ∧ Mt.OwnL w'' w'.heap.size v (Mt.keys y fs2) ∧ Below w'.heap.size w' w'' := fun w' hb' =>
        match_Keys_c y fs2 a2 c2 id2 ver2 kind2 lang2 w' ((HGW.out.below hbWU).below hb') ((HF2.out.below hbWU).below hb') HG2.out hgk.1
      have hBa := Cp.puts_asc Cp.ordB (Mt.vals y fs2)
      have hBl := Mt.keys_len y HG2.out
      have hBa : Cp.Asc Cp.ltB (Mt.keys y fs2) := hBa
      obtain ⟨A, hA⟩ : ∃ A, Mt.keys y fs = A := ⟨_, rfl⟩
      obtain ⟨B, hB2⟩ : ∃ B, Mt.keys y fs2 = B := ⟨_, rfl⟩
      rw [hA] at KA hss
      rw [hB2] at KB hss hBa hBl
      have MC := fun ba ca bb cb w1 h1 h2 => match_meet_c A B ba bb ca cb w1 h1 h2 hBa hBl
      have HKA := Lib.hid KA
      have HKB := Lib.hid KB
      have hgw := hgk.2
      clear KA KB hA hB2 hgk hy hBa hBl p0 p1 p2 p3 p4 q0 q1 q2 q3 q4
      cases hmt : Mt.meet A B with
      | true =>
        rw [hmt] at MC
        rw [if_pos hmt] at hss
        have HS := Lib.hid hss.symm
        have HMC := Lib.hid MC
        clear MC hss hmt hs
        have ws := IntWalk.i64_in (s + y.weight) ⟨by omega, by omega⟩
        go_wp2
        have hb0 := (Below.refl U.heap.size U).drew
        clear hU
        go_region_held3 (fun w' => Below U.heap.size U w' ∧ w'.cell? ⟨wr.heap.size, 0, none⟩ = some (.string y.tag) ∧ w'.cell? ⟨wr.heap.size, 1, none⟩ = some (.int .u8 y.code.toNat) ∧ w'.cell? ⟨wr.heap.size, 2, none⟩ = some (.int .i64 y.norm) ∧ w'.cell? ⟨wr.heap.size, 3, none⟩ = some (.int .i64 y.weight) ∧ w'.cell? ⟨w.heap.size + 1, 0, none⟩ = some (.int .i64 id) ∧ w'.cell? ⟨w.heap.size + 1, 1, none⟩ = some (.int .i64 ver) ∧ w'.cell? ⟨w.heap.size + 1, 2, none⟩ = some (.int .i64 kind) ∧ w'.cell? ⟨w.heap.size + 1, 3, none⟩ = some (.string lang) ∧ w'.cell? ⟨w.heap.size + 1, 4, none⟩ = some (.slice a fs.length c) ∧ w'.cell? ⟨w.heap.size + 2, 0, none⟩ = some (.int .i64 id2) ∧ w'.cell? ⟨w.heap.size + 2, 1, none⟩ = some (.int .i64 ver2) ∧ w'.cell? ⟨w.heap.size + 2, 2, none⟩ = some (.int .i64 kind2) ∧ w'.cell? ⟨w.heap.size + 2, 3, none⟩ = some (.string lang2) ∧ w'.cell? ⟨w.heap.size + 2, 4, none⟩ = some (.slice a2 fs2.length c2))
          (first | exact ⟨(Below.refl _ _).drew, l0, l1, l2, l3, p0', p1', p2', p3', p4', q0', q1', q2', q3', q4'⟩ | (go_split_ands; exact ⟨Tx.step (by assumption) hbx, cell_later hbx (by assumption), cell_later hbx (by assumption), cell_later hbx (by assumption), cell_later hbx (by assumption), cell_later hbx (by assumption), cell_later hbx (by assumption), cell_later hbx (by assumption), cell_later hbx (by assumption), cell_later hbx (by assumption), cell_later hbx (by assumption), cell_later hbx (by assumption), cell_later hbx (by assumption), cell_later hbx (by assumption), cell_later hbx (by assumption)⟩))
          (first
            | (go_split_ands; go_at_call 17; first
                | ((with_reducible refine (HKA.out _ (by assumption)).mono ?_); rintro e wx ⟨va, rfl, ga, hbx⟩; obtain ⟨ba, ca, rfl, la⟩ := ga.sla; have LA1 := Lib.hid la; clear la)
                | ((with_reducible refine (HKB.out _ (by assumption)).mono ?_); rintro e wx ⟨vb, rfl, gb, hbx⟩; obtain ⟨bb, cb, rfl, lb⟩ := gb.sla; have LB1 := Lib.hid lb; clear lb))
            | (go_split_ands; go_at_call 41; first
                | ((with_reducible refine (HMC.out _ _ _ _ _ (LA1.out.below (by assumption)) LB1.out).mono ?_); rintro e wx ⟨rfl, hbx⟩)
                | ((with_reducible refine (HMC.out _ _ _ _ _ LA1.out (LB1.out.below (by assumption))).mono ?_); rintro e wx ⟨rfl, hbx⟩)))
        all_goals (
          go_split_ands
          have hb8 : Below U.heap.size U wx := by assumption
          have hb9 := Tx.step hbU hb8
          go_wp2
          go_roundw
          case rel => exact ⟨k + 1, _, hlt, by go_num, rfl, HS, Tx.step hb hb9⟩
          case measure => simp [intOf]; omega)
      | false =>
        rw [hmt] at MC
        rw [if_neg (by rw [hmt]; decide), Int.add_zero] at hss
        have HS := Lib.hid hss.symm
        have HMC := Lib.hid MC
        clear MC hss hmt hs
        go_wp2
        have hb0 := (Below.refl U.heap.size U).drew
        clear hU
        go_region_held3 (fun w' => Below U.heap.size U w' ∧ w'.cell? ⟨wr.heap.size, 0, none⟩ = some (.string y.tag) ∧ w'.cell? ⟨wr.heap.size, 1, none⟩ = some (.int .u8 y.code.toNat) ∧ w'.cell? ⟨wr.heap.size, 2, none⟩ = some (.int .i64 y.norm) ∧ w'.cell? ⟨wr.heap.size, 3, none⟩ = some (.int .i64 y.weight) ∧ w'.cell? ⟨w.heap.size + 1, 0, none⟩ = some (.int .i64 id) ∧ w'.cell? ⟨w.heap.size + 1, 1, none⟩ = some (.int .i64 ver) ∧ w'.cell? ⟨w.heap.size + 1, 2, none⟩ = some (.int .i64 kind) ∧ w'.cell? ⟨w.heap.size + 1, 3, none⟩ = some (.string lang) ∧ w'.cell? ⟨w.heap.size + 1, 4, none⟩ = some (.slice a fs.length c) ∧ w'.cell? ⟨w.heap.size + 2, 0, none⟩ = some (.int .i64 id2) ∧ w'.cell? ⟨w.heap.size + 2, 1, none⟩ = some (.int .i64 ver2) ∧ w'.cell? ⟨w.heap.size + 2, 2, none⟩ = some (.int .i64 kind2) ∧ w'.cell? ⟨w.heap.size + 2, 3, none⟩ = some (.string lang2) ∧ w'.cell? ⟨w.heap.size + 2, 4, none⟩ = some (.slice a2 fs2.length c2))
          (first | exact ⟨(Below.refl _ _).drew, l0, l1, l2, l3, p0', p1', p2', p3', p4', q0', q1', q2', q3', q4'⟩ | (go_split_ands; exact ⟨Tx.step (by assumption) hbx, cell_later hbx (by assumption), cell_later hbx (by assumption), cell_later hbx (by assumption), cell_later hbx (by assumption), cell_later hbx (by assumption), cell_later hbx (by assumption), cell_later hbx (by assumption), cell_later hbx (by assumption), cell_later hbx (by assumption), cell_later hbx (by assumption), cell_later hbx (by assumption), cell_later hbx (by assumption), cell_later hbx (by assumption), cell_later hbx (by assumption)⟩))
          (first
            | (go_split_ands; go_at_call 17; first
                | ((with_reducible refine (HKA.out _ (by assumption)).mono ?_); rintro e wx ⟨va, rfl, ga, hbx⟩; obtain ⟨ba, ca, rfl, la⟩ := ga.sla; have LA1 := Lib.hid la; clear la)
                | ((with_reducible refine (HKB.out _ (by assumption)).mono ?_); rintro e wx ⟨vb, rfl, gb, hbx⟩; obtain ⟨bb, cb, rfl, lb⟩ := gb.sla; have LB1 := Lib.hid lb; clear lb))
            | (go_split_ands; go_at_call 41; first
                | ((with_reducible refine (HMC.out _ _ _ _ _ (LA1.out.below (by assumption)) LB1.out).mono ?_); rintro e wx ⟨rfl, hbx⟩)
                | ((with_reducible refine (HMC.out _ _ _ _ _ LA1.out (LB1.out.below (by assumption))).mono ?_); rintro e wx ⟨rfl, hbx⟩)))
        all_goals (
          go_split_ands
          have hb8 : Below U.heap.size U wx := by assumption
          have hb9 := Tx.step hbU hb8
          go_wp2
          go_roundw
          case rel => exact ⟨k + 1, _, hlt, by go_num, rfl, HS, Tx.step hb hb9⟩
          case measure => simp [intOf]; omega)
    · obtain rfl : k = m.keys.length := by omega
      have hs2 := hs.out
      rw [List.take_length] at hs2
      subst hs2
      go_wp2
      go_ret
      exact ⟨rfl, Tx.step hB hb⟩
end Go.Proofs.YtogpghpgnpoioaaGreatDoor
