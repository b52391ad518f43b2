import Derived.Test.YtddmgphlhfilnaaB1
namespace Go.Proofs.Ytddmgphlhfilnaa
set_option linter.unusedVariables false
set_option linter.unusedSimpArgs false
open Go.RowKit

/-- A slice of slices that the call made: the rows lie in blocks of their own. -/
def OwnSS (w : World) (base : Nat) (v : Value) (rows : List (List Int)) : Prop :=
  ∃ vs : List Value, w.ownsRow base 36 1 v rows.length vs ∧ (∀ (i : Nat) (r : List Int), rows[i]? = some r → ∃ u, vs[i]? = some u ∧ w.ownsRow base 3 1 u r.length (ints r)) ∧
    ∀ (i j : Nat) (u u' : Value) (k : Nat), vs[i]? = some u → vs[j]? = some u' → u.ownBlock = some k → u'.ownBlock = some k → i = j
theorem OwnSS.shape {w : World} {base : Nat} {v : Value} {rows : List (List Int)} (h : OwnSS w base v rows) : ∃ s c, v = .slice s rows.length c := by
  obtain ⟨vs, h1, _⟩ := h; exact own_shape h1
theorem OwnSS.sls {w : World} {base : Nat} {s : Option Addr} {c : Nat} {rows : List (List Int)} (h : OwnSS w base (.slice s rows.length c) rows) : SlS w s rows := by
  obtain ⟨vs, h1, h2, _⟩ := h
  refine ⟨vs, by simpa using h1.1, own_sl h1, fun i r hr => ?_⟩
  obtain ⟨u, hu, ho⟩ := h2 i r hr
  obtain ⟨si, ci, rfl⟩ := own_shape ho
  exact ⟨si, ci, hu, own_sl ho⟩
theorem OwnSS.below {w w' : World} {base : Nat} {v : Value} {rows : List (List Int)} (h : OwnSS w base v rows) (hb : Below w.heap.size w w') : OwnSS w' base v rows := by
  obtain ⟨vs, h1, h2, h3⟩ := h
  exact ⟨vs, own_below h1 hb, fun i r hr => let ⟨u, hu, ho⟩ := h2 i r hr; ⟨u, hu, own_below ho hb⟩, h3⟩

theorem mk40 (w : World) (n : Nat) (h : n ≤ 1048576) : (Instr.makeSlice 56 (.int .i64 (n : Int)) (.int .i64 (n : Int))).run Try.prog w = .ok (.slice (some ⟨w.heap.size, 0, none⟩) n n) (w.alloc (.cells (madeCells #[.slice none 0 0] n) 36)) := by
  obtain ⟨i, hi, h1, h2, h3⟩ := info_parts (P := Try.prog) (e := 36) (z := .slice none 0 0) (size := 1) (bytes := 24) (by kernel_rfl)
  have := run_make (P := Try.prog) w 56 36 i (.slice none 0 0) (by kernel_rfl) hi h1 .i64 .i64 n n (by omega) (by omega) (by rw [h3]; omega) (by omega)
  rw [this, h2]; simp [Value.cells]

set_option maxHeartbeats 400000 in
theorem toIntSS_any (s : Option Addr) (cap : Nat) (rows : List (List Int)) (w : World) (hn : rows.length ≤ 1048576) (hr : ∀ r ∈ rows, r.length ≤ 1048576) (hs : SlS w s rows) :
    Calls Try.prog 41 #[.slice s rows.length cap] w fun e w' => ∃ s' c', e = .returned (.slice s' rows.length c') ∧ OwnSS w' w.heap.size (.slice s' rows.length c') rows ∧ Below w.heap.size w w' := by
  have hmk := fun w => mk40 w rows.length hn
  have HS : Hid (SlS w s rows ∧ ∀ r ∈ rows, r.length ≤ 1048576) := ⟨hs, hr⟩
  clear hs hr
  generalize hlen : rows.length = n at hn hmk ⊢
  have HL := Lib.hid hlen
  clear hlen
  go_enter Try.func41, Try.ntmps41
  go_wp2
  go_loopw [4] (fun i wr => ∃ k : Nat, ∃ arr : Array Value, k ≤ n ∧ i = .int .i64 k ∧ arr.size = n ∧ wr.heap[w.heap.size]? = some (.cells arr 36 (0, 0)) ∧ Below w.heap.size w wr ∧
      (∀ (i : Nat) (r : List Int), i < k → rows[i]? = some r → ∃ u, arr[i]? = some u ∧ wr.ownsRow w.heap.size 3 1 u r.length (ints r)) ∧
      ∀ (i j : Nat) (u u' : Value) (b : Nat), i < k → j < k → arr[i]? = some u → arr[j]? = some u' → u.ownBlock = some b → u'.ownBlock = some b → i = j) (fun i _ => n - (intOf i).toNat)
  case atStart => exact ⟨0, _, Nat.zero_le _, rfl, size_madeCells _ _, blk_new _ _, (Below.refl _ _).alloc (Nat.le_refl _) _, fun _ _ h => by omega, fun _ _ _ _ _ h => by omega⟩
  case round =>
    obtain ⟨k, arr, hk, rfl, ha, hb, hbl, hrow, hdis⟩ := hrel
    by_cases hlt : k < n
    · obtain ⟨r, hrk⟩ := get_of_lt (l := rows) (k := k) (by have := HL.out; omega)
      obtain ⟨b, off, si, ci, rfl, hbw, hz, hsi⟩ := HS.out.1.row hbl hrk
      have hrl := HS.out.2 r (List.mem_of_getElem? hrk)
      have hsi' := Lib.hid (hsi.mono hbl)
      obtain ⟨y, hy⟩ : ∃ y, arr[k]? = some y := ⟨arr[k], by simp [ha, hlt]⟩
      have HR : Hid (_ ∧ _ ∧ _ ∧ _ ∧ _ ∧ _ ∧ _ ∧ _) := Lib.hid ⟨ha, hb, hbl, hrow, hdis, hrk, hy, hsi⟩
      clear ha hb hbl hrow hdis hrk hy hsi
      go_wp2_with (go_at_call 65; refine (toIntS_any _ _ _ _ hrl hsi'.out).mono ?_; rintro e w1 ⟨rfl, hq1, hq2, hq3⟩; have hc2 : w1.cell? ⟨w.heap.size, k, none⟩ = some y := (hq3.cell (blk_lt HR.out.2.1)).trans ((blk_cell HR.out.2.1).trans HR.out.2.2.2.2.2.2.1); have hf2 : w1.frozen? ⟨w.heap.size, k, none⟩ = false := blk_free (blk_below hq3 (blk_lt HR.out.2.1) HR.out.2.1); have HQ := Lib.hid (And.intro hq1 (And.intro hq2 hq3)); clear hq1 hq2 hq3)
      obtain ⟨ha, hb, hbl, hrow, hdis, hrk, hy, hsi⟩ := HR.out
      obtain ⟨hq1, hq2, hq3⟩ := HQ.out
      have hbs := blk_lt hb
      have hsz := hbl.size
      have hnew : ∀ (i : Nat) (u : Value), (arr.setIfInBounds k (.slice (some ⟨wr.heap.size, 0, none⟩) r.length r.length))[i]? = some u → i ≠ k → arr[i]? = some u := fun i u hu hne => by
        rwa [Array.getElem?_setIfInBounds_ne (Ne.symm hne)] at hu
      have hkk : (arr.setIfInBounds k (.slice (some ⟨wr.heap.size, 0, none⟩) r.length r.length))[k]? = some (.slice (some ⟨wr.heap.size, 0, none⟩) r.length r.length) := by simp [ha, hlt]
      have hrl2 := HS.out.2 r (List.mem_of_getElem? hrk)
      have hlow : ∀ (i : Nat) (u : Value) (b' : Nat), i < k → arr[i]? = some u → u.ownBlock = some b' → b' < wr.heap.size := fun i u b' hik hu hub => by
        obtain ⟨r', hr'⟩ := get_of_lt (l := rows) (k := i) (by have := HL.out; omega)
        obtain ⟨u2, hu2, ho2⟩ := hrow i r' hik hr'
        rw [hu] at hu2; cases hu2
        exact (own_blk ho2 hub).2
      go_roundw
      case rel =>
        refine ⟨k + 1, _, by omega, by go_num, by simpa using ha, blk_set (blk_below hq3 hbs hb), (hbl.trans (hq3.mono hsz)).setCell (Nat.le_refl _) _, ?_, ?_⟩
        · intro i r' hik hr'
          by_cases e : i = k
          · subst e
            rw [hrk] at hr'; cases hr'
            refine ⟨_, hkk, own_set_ne (own_base (own_of_blk (n := r.length) hq1 (Nat.le_refl _) (by simp) (by unfold maxLen; omega)) hsz) (by simp [Value.ownBlock]; omega) _⟩
          · obtain ⟨u, hu, ho⟩ := hrow i r' (by omega) hr'
            refine ⟨u, by rw [Array.getElem?_setIfInBounds_ne (Ne.symm e)]; exact hu, own_set_ne (own_below ho hq3) (fun e' => ?_) _⟩
            rcases ho.2 with ⟨rfl, _⟩ | ⟨g, cap', cur, rfl, _, hg, _⟩
            · cases e'
            · simp only [Value.ownBlock, Option.some.injEq] at e'; subst e'; rw [hb] at hg; simp at hg
        · intro i j u u' b' hi hj hu hu' hub hub'
          by_cases e : i = k <;> by_cases e2 : j = k
          · omega
          · subst e; rw [hkk] at hu; cases hu
            simp only [Value.ownBlock, Option.some.injEq] at hub
            have := hlow j u' b' (by omega) (hnew _ _ hu' e2) hub'
            omega
          · subst e2; rw [hkk] at hu'; cases hu'
            simp only [Value.ownBlock, Option.some.injEq] at hub'
            have := hlow i u b' (by omega) (hnew _ _ hu e) hub
            omega
          · exact hdis i j u u' b' (by omega) (by omega) (hnew _ _ hu e) (hnew _ _ hu' e2) hub hub'
      case measure => simp [intOf]; omega
    · obtain rfl : k = n := by omega
      have hbs := blk_lt hb
      have HR : Hid (_ ∧ _ ∧ _ ∧ _ ∧ _) := Lib.hid ⟨ha, hb, hbl, hrow, hdis⟩
      clear ha hb hbl hrow hdis
      go_wp2
      go_ret
      obtain ⟨ha, hb, hbl, hrow, hdis⟩ := HR.out
      have hl := HL.out
      refine ⟨_, _, rfl, ⟨arr.toList, ?_, fun i r hr => ?_, fun i j u u' b hu hu' => ?_⟩, hbl⟩
      · rw [hl]; exact own_of_blk hb (Nat.le_refl _) (by omega) (by unfold maxLen; omega)
      · have := (List.getElem?_eq_some_iff.1 hr).1
        simpa using hrow i r (by omega) hr
      · rw [Array.getElem?_toList] at hu hu'
        have h1 := (Array.getElem?_eq_some_iff.1 hu).1
        have h2 := (Array.getElem?_eq_some_iff.1 hu').1
        exact hdis i j u u' b (by omega) (by omega) hu hu'

theorem eqIntSS_any (s t : Option Addr) (xs ys : List (List Int)) (cap cap2 : Nat) (w : World) (hs : SlS w s xs) (ht : SlS w t ys) (hl : xs.length ≤ 1048576) (hl2 : ys.length ≤ 1048576) (hr : ∀ r ∈ xs, r.length ≤ 1048576) (hr2 : ∀ r ∈ ys, r.length ≤ 1048576) :
    Calls Try.prog 44 #[.slice s xs.length cap, .slice t ys.length cap2] w fun e w' => e = .returned (.bool (decide (xs = ys))) ∧ Drew w w' := by
  have HS : Hid ((SlS w s xs ∧ SlS w t ys) ∧ (∀ r ∈ xs, r.length ≤ 1048576) ∧ ∀ r ∈ ys, r.length ≤ 1048576) := ⟨⟨hs, ht⟩, hr, hr2⟩
  clear hs ht hr hr2
  by_cases hc : xs.length = ys.length
  · rw [← hc]
    generalize hn : xs.length = n at hc hl ⊢
    have HC : Hid (xs.length = n ∧ ys.length = n) := ⟨hn, hc.symm⟩
    clear hc hn hl2
    go_enter Try.func44, Try.ntmps44
    go_wp2
    go_loopw [5] (fun i wr => ∃ k : Nat, k ≤ n ∧ i = .int .i64 k ∧ xs.take k = ys.take k ∧ Drew w wr) (fun i _ => n - (intOf i).toNat)
    case atStart => exact ⟨0, Nat.zero_le _, rfl, rfl, Drew.refl _⟩
    case round =>
      obtain ⟨k, hk, rfl, htk, hd⟩ := hrel
      have HT : Hid (xs.take k = ys.take k) := htk
      have HD := Lib.hid hd
      clear htk hd
      by_cases hlt : k < n
      · obtain ⟨x, hx⟩ := get_of_lt (l := xs) (k := k) (by have := HC.out; omega)
        obtain ⟨y, hy⟩ := get_of_lt (l := ys) (k := k) (by have := HC.out; omega)
        obtain ⟨b, off, sx, cx, rfl, hbw, hz, hsx⟩ := HS.out.1.1.row (HD.out.below _) hx
        obtain ⟨b2, off2, sy, cy, rfl, hbw2, hz2, hsy⟩ := HS.out.1.2.row (HD.out.below _) hy
        have hlx := HS.out.2.1 x (List.mem_of_getElem? hx)
        have hly := HS.out.2.2 y (List.mem_of_getElem? hy)
        have HX : ∀ m, Sl (wr.drewN m) sx (ints x) ∧ Sl (wr.drewN m) sy (ints y) := fun m => ⟨hsx.mono ((HD.out.n m).below _), hsy.mono ((HD.out.n m).below _)⟩
        have HR : Hid (_ ∧ _ ∧ ∀ m, Sl (wr.drewN m) sx (ints x) ∧ Sl (wr.drewN m) sy (ints y)) := Lib.hid ⟨hx, hy, HX⟩
        clear hx hy hsx hsy HX
        go_wp2_with fail
        go_quiet ((go_at_call 43; exact Calls.quiet_of (eqIntS_any _ _ _ _ _ _ _ (HR.out.2.2 _).1 (HR.out.2.2 _).2 hlx hly)))
        go_wp2
        all_goals obtain ⟨hx, hy, _⟩ := HR.out
        all_goals first
          | (go_roundw
             case rel => exact ⟨k + 1, by omega, by go_num, by rw [List.take_add_one, List.take_add_one, HT.out, hx, hy]; simp at *; assumption, HD.out.n _⟩
             case measure => simp [intOf]; omega)
          | (go_ret
             refine ⟨ret_bool ?_, HD.out.n _⟩
             symm; rw [decide_eq_false_iff_not]; intro e; subst e; rw [hx] at hy; simp at *; contradiction)
      · obtain rfl : k = n := by omega
        have he : decide (xs = ys) = true := by
          have h1 := HT.out
          rw [List.take_of_length_le (by have := HC.out; omega), List.take_of_length_le (by have := HC.out; omega)] at h1
          simpa using h1
        have HE := Lib.hid he
        clear he
        go_wp2
        go_ret
        exact ⟨ret_bool HE.out.symm, HD.out⟩
  · have hd : decide (xs = ys) = false := by simp; intro e; exact hc (by rw [e])
    rw [hd]
    clear hd
    go_enter Try.func44, Try.ntmps44
    go_wp2
    go_ret
    exact ⟨rfl, Drew.refl _⟩

end Go.Proofs.Ytddmgphlhfilnaa
