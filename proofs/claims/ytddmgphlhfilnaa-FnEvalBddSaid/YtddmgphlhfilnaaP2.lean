import Derived.Test.YtddmgphlhfilnaaP1
import Derived.Test.YtddmgphlhfilnaaB2
namespace Go.Proofs.Ytddmgphlhfilnaa
set_option linter.unusedVariables false
set_option linter.unusedSimpArgs false
open Go.RowKit

/-! Rows of literals: a [][]int whose rows lie in blocks of their own, in rising order. -/

def rowV (b : Nat) (r : List Int) : Value := .slice (some ⟨b, 0, none⟩) r.length r.length
def rowVs (bs : List Nat) (rows : List (List Int)) : List Value := List.zipWith rowV bs rows
theorem rowVs_get {bs : List Nat} {rows : List (List Int)} {i b : Nat} {r : List Int} (h1 : bs[i]? = some b) (h2 : rows[i]? = some r) : (rowVs bs rows)[i]? = some (rowV b r) := by
  unfold rowVs; rw [List.getElem?_zipWith, h1, h2]
theorem rowVs_length {bs : List Nat} {rows : List (List Int)} (h : bs.length = rows.length) : (rowVs bs rows).length = rows.length := by
  unfold rowVs; rw [List.length_zipWith, h]; simp
structure RowsAt (w : World) (base : Nat) (v : Value) (bs : List Nat) (rows : List (List Int)) : Prop where
  out : w.ownsRow base 36 1 v rows.length (rowVs bs rows)
  len : bs.length = rows.length
  blk : ∀ (i b : Nat) (r : List Int), bs[i]? = some b → rows[i]? = some r → w.heap[b]? = some (.cells (ints r).toArray 3 (0, 0)) ∧ base ≤ b
  inc : bs.Pairwise (· < ·)
theorem RowsAt.get {w : World} {base : Nat} {v : Value} {bs : List Nat} {rows : List (List Int)} (h : RowsAt w base v bs rows) {i : Nat} {r : List Int} (hr : rows[i]? = some r) : ∃ b, bs[i]? = some b := by
  have := (List.getElem?_eq_some_iff.1 hr).1
  exact get_of_lt (by rw [h.len]; exact this)
theorem RowsAt.sls {w : World} {base : Nat} {s : Option Addr} {c : Nat} {bs : List Nat} {rows : List (List Int)} (h : RowsAt w base (.slice s rows.length c) bs rows) : SlS w s rows := by
  refine ⟨rowVs bs rows, rowVs_length h.len, own_sl h.out, fun i r hr => ?_⟩
  obtain ⟨b, hb⟩ := h.get hr
  exact ⟨_, _, rowVs_get hb hr, Sl.toA (h.blk i b r hb hr).1⟩
theorem RowsAt.below {w w' : World} {base : Nat} {v : Value} {bs : List Nat} {rows : List (List Int)} (h : RowsAt w base v bs rows) (hb : Below w.heap.size w w') : RowsAt w' base v bs rows :=
  ⟨own_below h.out hb, h.len, fun i b r h1 h2 => ⟨blk_below hb (blk_lt (h.blk i b r h1 h2).1) (h.blk i b r h1 h2).1, (h.blk i b r h1 h2).2⟩, h.inc⟩
theorem RowsAt.lt {w : World} {base : Nat} {v : Value} {bs : List Nat} {rows : List (List Int)} (h : RowsAt w base v bs rows) {b : Nat} (hb : b ∈ bs) : base ≤ b ∧ b < w.heap.size := by
  obtain ⟨i, hi⟩ := List.mem_iff_getElem?.1 hb
  obtain ⟨r, hr⟩ := get_of_lt (l := rows) (k := i) (by rw [← h.len]; exact (List.getElem?_eq_some_iff.1 hi).1)
  exact ⟨(h.blk i b r hi hr).2, blk_lt (h.blk i b r hi hr).1⟩
theorem own_tyb {w : World} {base : Nat} {e : TypeId} {size n : Nat} {v : Value} {xs : List Value} (h : w.ownsRow base e size v n xs) {b : Nat} {arr : Array Value} {t : TypeId} {fz : Nat × Nat} (hb : w.heap[b]? = some (.cells arr t fz)) (he : e ≠ t) : v.ownBlock ≠ some b := by
  intro hk
  rcases h.2 with ⟨rfl, _⟩ | ⟨g, cap, cur, rfl, _, hg, _⟩
  · cases hk
  · simp only [Value.ownBlock, Option.some.injEq] at hk
    subst hk
    rw [hg] at hb
    simp only [Option.some.injEq, Obj.cells.injEq] at hb
    exact he hb.2.1
theorem RowsAt.push {w w2 : World} {base : Nat} {v v' : Value} {bs nb : List Nat} {rows nr : List (List Int)} (h : RowsAt w base v bs rows) (hl : nb.length = nr.length)
    (hn : ∀ (i b : Nat) (r : List Int), nb[i]? = some b → nr[i]? = some r → w.heap[b]? = some (.cells (ints r).toArray 3 (0, 0)) ∧ base ≤ b) (hi : (bs ++ nb).Pairwise (· < ·))
    (hg : w.grownBy w2 v.ownBlock) (ho : w2.ownsRow base 36 1 v' (rows.length + nr.length) (rowVs bs rows ++ rowVs nb nr)) : RowsAt w2 base v' (bs ++ nb) (rows ++ nr) := by
  have keep : ∀ (b : Nat) (r : List Int), w.heap[b]? = some (.cells (ints r).toArray 3 (0, 0)) → w2.heap[b]? = some (.cells (ints r).toArray 3 (0, 0)) := fun b r hb => by
    rw [hg.block b (blk_lt hb) (fun e => own_tyb h.out hb (by decide) e.symm)]; exact hb
  refine ⟨?_, by simp [h.len, hl], fun i b r h1 h2 => ?_, hi⟩
  · have e : rowVs (bs ++ nb) (rows ++ nr) = rowVs bs rows ++ rowVs nb nr := by unfold rowVs; exact List.zipWith_append h.len
    rw [e, List.length_append]; exact ho
  · by_cases hlt : i < rows.length
    · rw [List.getElem?_append_left (by rw [h.len]; exact hlt)] at h1
      rw [List.getElem?_append_left hlt] at h2
      exact ⟨keep b r (h.blk i b r h1 h2).1, (h.blk i b r h1 h2).2⟩
    · rw [List.getElem?_append_right (by rw [h.len]; omega), h.len] at h1
      rw [List.getElem?_append_right (by omega)] at h2
      exact ⟨keep b r (hn _ b r h1 h2).1, (hn _ b r h1 h2).2⟩
theorem pw_append {bs nb : List Nat} (h1 : bs.Pairwise (· < ·)) (h2 : nb.Pairwise (· < ·)) (m : Nat) (h3 : ∀ b ∈ bs, b < m) (h4 : ∀ b ∈ nb, m ≤ b) : (bs ++ nb).Pairwise (· < ·) :=
  List.pairwise_append.2 ⟨h1, h2, fun a ha b hb => Nat.lt_of_lt_of_le (h3 a ha) (h4 b hb)⟩
theorem RowsAt.nil (w : World) (base : Nat) : RowsAt w base (.slice none 0 0) [] [] := ⟨World.ownsRow_nil _ _ _ _, rfl, by simp, List.Pairwise.nil⟩

def markR : Int → List (List Int) → List (List Int)
  | _, [] => []
  | k, r :: rs => iota k r.length :: markR (k + r.length) rs
theorem markR_length : ∀ (k : Int) (rows : List (List Int)), (markR k rows).length = rows.length
  | _, [] => rfl
  | k, r :: rs => by simp [markR, markR_length (k + r.length) rs]
theorem markR_get : ∀ {k : Int} {rows : List (List Int)} {i : Nat} {r : List Int}, rows[i]? = some r → (markR k rows)[i]? = some (iota (k + lens (rows.take i)) r.length)
  | _, [], _, _, h => by simp at h
  | k, q :: rs, 0, r, h => by simp at h; subst h; simp [markR, lens]
  | k, q :: rs, i + 1, r, h => by
    have := markR_get (k := k + q.length) (rows := rs) (i := i) (r := r) (by simpa using h)
    simp only [markR, List.getElem?_cons_succ, this, List.take_succ_cons]
    congr 2
    unfold lens; simp; omega
theorem own_exact {w : World} {base : Nat} {e : TypeId} {b n : Nat} {xs : List Value} (h : w.ownsRow base e 1 (.slice (some ⟨b, 0, none⟩) n n) n xs) : w.heap[b]? = some (.cells xs.toArray e (0, 0)) := by
  rcases h.2 with ⟨e, _⟩ | ⟨g, cap, cur, e, _, hg, _, _, hs, ht⟩
  · simp at e
  · simp only [Value.slice.injEq, Option.some.injEq, Addr.mk.injEq, and_true, true_and] at e
    obtain ⟨rfl, rfl⟩ := e
    rw [hg, ← ht, List.take_of_length_le (by rw [Array.length_toList, hs]; simp)]
theorem own_row {w : World} {b : Nat} {r : List Int} (h : w.heap[b]? = some (.cells (ints r).toArray 3 (0, 0))) (hl : r.length ≤ 1048576) : w.ownsRow 0 3 1 (rowV b r) r.length (ints r) := by
  have := own_of_blk (base := 0) (size := 1) (n := r.length) h (Nat.zero_le _) (by simp) (by unfold maxLen; omega)
  unfold rowV; simpa using this

set_option maxHeartbeats 800000 in
theorem markIntSS_any (base : Nat) (s : Option Addr) (cap : Nat) (bs : List Nat) (rows : List (List Int)) (k : Int) (w : World) (h : RowsAt w base (.slice s rows.length cap) bs rows) (hn : rows.length ≤ 1000) (hr : ∀ r ∈ rows, r.length ≤ 1000) (hk : 0 ≤ k) (hk2 : k ≤ 1000) :
    Calls Try.prog 45 #[.slice s rows.length cap, .int .i64 k] w fun e w' => e = .returned (.int .i64 (k + lens rows)) ∧ RowsAt w' base (.slice s rows.length cap) bs (markR k rows) ∧ Chg (fun q => q ∈ bs) w w' := by
  have hll : ∀ j, lens (rows.take j) ≤ 1000 * j := fun j => by
    induction j with
    | zero => simp [lens]
    | succ j ih =>
      by_cases hj : j < rows.length
      · obtain ⟨r, hrj⟩ := get_of_lt hj
        rw [lens_snoc hrj]
        have := hr r (List.mem_of_getElem? hrj)
        omega
      · rw [List.take_of_length_le (by omega)]; rw [List.take_of_length_le (by omega)] at ih; omega
  have H := Lib.hid (And.intro h (And.intro hr hll))
  clear h hr hll
  go_enter Try.func45, Try.ntmps45
  go_wp2_with fail
  go_loopw [1, 5] (fun v1 i wr => ∃ j : Nat, j ≤ rows.length ∧ i = .int .i64 j ∧ v1 = .int .i64 (k + lens (rows.take j)) ∧
      (∀ (i b : Nat) (r : List Int), bs[i]? = some b → rows[i]? = some r → wr.heap[b]? = some (.cells (ints (if i < j then iota (k + lens (rows.take i)) r.length else r)).toArray 3 (0, 0))) ∧ Chg (fun q => q ∈ bs) w wr) (fun _ i _ => rows.length - (intOf i).toNat)
  case atStart => exact ⟨0, Nat.zero_le _, rfl, by simp [lens], fun i b r h1 h2 => by simpa using (H.out.1.blk i b r h1 h2).1, Chg.refl _ _⟩
  case round =>
    obtain ⟨j, hj, rfl, rfl, hb, hc⟩ := hrel
    have ho := hc.own H.out.1.out (fun q e hq => by
      obtain ⟨i, hi⟩ := List.mem_iff_getElem?.1 hq
      obtain ⟨r, hr⟩ := get_of_lt (l := rows) (k := i) (by rw [← H.out.1.len]; exact (List.getElem?_eq_some_iff.1 hi).1)
      exact own_tyb H.out.1.out (H.out.1.blk i q r hi hr).1 (by decide) e)
    have hL0 := lens_nonneg (rows.take j)
    have hL1 := H.out.2.2 j
    by_cases hlt : j < rows.length
    · obtain ⟨r, hrj⟩ := get_of_lt hlt
      obtain ⟨b, hbj⟩ := H.out.1.get hrj
      obtain ⟨g, rfl⟩ : ∃ g, s = some ⟨g, 0, none⟩ := by
        rcases own_some ho with ⟨_, e, _⟩ | ⟨g, e⟩
        · omega
        · exact ⟨g, e⟩
      have hz : wr.cell? ⟨g, j, none⟩ = some (.slice (some ⟨b, 0, none⟩) r.length r.length) := (ho.cellAt j (by omega)).trans (rowVs_get hbj hrj)
      have hrl := H.out.2.1 r (List.mem_of_getElem? hrj)
      have hbr : wr.heap[b]? = some (.cells (ints r).toArray 3 (0, 0)) := by simpa using hb j b r hbj hrj
      have hor := own_row hbr (by omega)
      have hsn := lens_snoc hrj
      have HR := Lib.hid (And.intro hb (And.intro hc (And.intro hrj (And.intro hbj (And.intro hor hsn)))))
      clear hb hc ho hrj hbj hbr hor hsn
      go_wp2_with (go_at_call 46; ((refine (markIntS_any 0 (some ⟨b, 0, none⟩) r.length r.length r _ _ HR.out.2.2.2.2.1 (by omega) (by omega) (by omega)).mono ?_); rintro e w1 ⟨rfl, ho1, hg1⟩; have HM := Lib.hid (And.intro (own_exact ho1) (Chg.of_grown hg1)); clear ho1 hg1))
      obtain ⟨hb, hc, hrj, hbj, hor, hsn⟩ := HR.out
      go_roundw
      case rel =>
        refine ⟨j + 1, by omega, by go_num, by rw [hsn]; go_num, fun i b' r' h1 h2 => ?_, hc.trans (HM.out.2.mono fun q e => by cases e; exact List.mem_of_getElem? hbj)⟩
        by_cases e : i = j
        · subst e
          rw [hbj] at h1; cases h1
          rw [hrj] at h2; cases h2
          rw [if_pos (by omega)]; exact HM.out.1
        · have hne : b' ≠ b := by
            intro eb
            have i1 := (List.getElem?_eq_some_iff.1 h1)
            have i2 := (List.getElem?_eq_some_iff.1 hbj)
            obtain ⟨i1l, i1e⟩ := i1
            obtain ⟨i2l, i2e⟩ := i2
            rcases Nat.lt_or_gt_of_ne e with hh | hh
            · have := List.pairwise_iff_getElem.1 H.out.1.inc i j i1l i2l hh; omega
            · have := List.pairwise_iff_getElem.1 H.out.1.inc j i i2l i1l hh; omega
          have h3 := hb i b' r' h1 h2
          rw [HM.out.2.block b' (blk_lt h3) (fun e => hne (by cases e; rfl)), h3]
          have : (i < j + 1) = (i < j) := by apply propext; omega
          simp only [this]
      case measure => simp [intOf]; omega
    · obtain rfl : j = rows.length := by omega
      have hR : RowsAt wr base (.slice s rows.length cap) bs (markR k rows) := by
        have e : rowVs bs (markR k rows) = rowVs bs rows := by
          apply List.ext_getElem?
          intro i
          by_cases hi : i < rows.length
          · obtain ⟨r, hri⟩ := get_of_lt hi
            obtain ⟨b, hbi⟩ := H.out.1.get hri
            rw [rowVs_get hbi hri, rowVs_get hbi (markR_get hri)]
            simp [rowV, iota_length]
          · rw [List.getElem?_eq_none (by rw [rowVs_length (by rw [markR_length, H.out.1.len]), markR_length]; omega), List.getElem?_eq_none (by rw [rowVs_length H.out.1.len]; omega)]
        refine ⟨by rw [e, markR_length]; exact ho, by rw [markR_length, H.out.1.len], fun i b r' h1 h2 => ?_, H.out.1.inc⟩
        have hi := (List.getElem?_eq_some_iff.1 h1).1
        rw [H.out.1.len] at hi
        obtain ⟨r, hri⟩ := get_of_lt hi
        rw [markR_get hri] at h2; cases h2
        have := hb i b r h1 hri
        rw [if_pos hi] at this
        exact ⟨this, (H.out.1.blk i b r h1 hri).2⟩
      have HR := Lib.hid (And.intro hR hc)
      clear hR hc hb ho
      go_wp2
      go_ret
      exact ⟨ret_int (by rw [List.take_length]), HR.out.1, HR.out.2⟩

end Go.Proofs.Ytddmgphlhfilnaa
