import Derived.Test.YtddmgphlhfilnaaCO
namespace Go.Proofs.Ytddmgphlhfilnaa
set_option linter.unusedVariables false
set_option linter.unusedSimpArgs false
open Go.RowKit

/-! A diagram and a number are drawn. -/

/-- A diagram and a number that were drawn. -/
def DrawnBdX (lo hi : Int) (w : World) (e : Ending) (w' : World) : Prop :=
  ∃ (d : Bd) (sb : Option Addr) (kb : Nat) (x : Int), e = .returned (.tuple #[.agg #[.slice sb d.nodes.length kb, .int .i64 d.root], .int .i64 x]) ∧ w'.ownsRow w.heap.size 29 3 (.slice sb d.nodes.length kb) d.nodes.length (ncells d.nodes) ∧ d.nodes.length ≤ 300 ∧ (-1 ≤ d.root ∧ d.root ≤ 300) ∧ (lo ≤ x ∧ x ≤ hi) ∧ Below w.heap.size w w'

set_option maxRecDepth 100000 in
set_option maxHeartbeats 1600000 in
theorem DrawEvalBdd_any (s : Option Addr) (cap : Nat) (xs : List Int) (w : World) (hs : Sl w s (u8s xs)) (hl : xs.length ≤ 1048576) (hcap : xs.length ≤ cap) (hcap2 : cap ≤ 9223372036854775807) (hr : ∀ x ∈ xs, 0 ≤ x ∧ x ≤ 255) :
    Calls Try.prog 18 #[.slice s xs.length cap] w (DrawnBdX (-1) 129 w) := by
  obtain ⟨W0, hW0⟩ : ∃ W0, W0 = w.alloc (.cells #[.slice none 0 0, .int .i64 0] 25) := ⟨_, rfl⟩
  have hz : W0.heap.size = w.heap.size + 1 := by rw [hW0]; simp
  have hb0 : Below w.heap.size w W0 := by rw [hW0]; exact below_alloc _ _
  have hk0 : W0.heap[w.heap.size]? = some (.cells #[.slice none 0 0, .int .i64 0] 25 (0, 0)) := by rw [hW0]; exact blk_new _ _
  have HH := Lib.hid (l20Open_any s cap xs W0 (hs.mono hb0) hl hcap hcap2 hr)
  have HW := Lib.hid (And.intro hW0 (And.intro hz (And.intro hb0 hk0)))
  clear hs hr hW0 hz hb0 hk0
  go_enter Try.func18, Try.ntmps18
  go_upto_region 1 with fail
  rw [← HW.out.1]
  go_wp2_with (first
    | (go_at_call 56; (with_reducible refine HH.out.mono ?_); rintro e w1 ⟨c, rfl, h1, h2, h3⟩; have H1 := Lib.hid (And.intro h1 (And.intro h2 h3)); clear h1 h2 h3)
    | (go_at_call 55; (with_reducible refine (l20Bdd_any _ _ _ _ _ _ _ H1.out.1 (by omega) (by omega) (by omega)).mono ?_); rintro e w2 ⟨d, sb, kb, p', rfl, h1, h2, h3, h4, h5, h6⟩; have HI := Lib.hid (And.intro h1 h6); have HRd := Lib.hid h4; have hm : w2.heap[w.heap.size]? = some (.cells #[.slice none 0 0, .int .i64 0] 25 (0, 0)) := (by have e1 := HW.out.2.1; have e2 := H1.out.2.2; rw [h6.block _ (by omega) (by omega)]; exact blk_below H1.out.2.1 (by omega) HW.out.2.2.2); have HM := Lib.hid hm; have hp9 : p' ≤ 2000 := (by omega); clear h1 h4 h5 h6 hm)
    | (go_at_call 58; ((with_reducible refine (pick_any _ _ _ _ _ _ _ HRd.out (by omega) (by omega)).mono ?_); rintro e w3 ⟨k, rfl, hk1, hk2, hk3, -⟩; have hm3 := (hk3.block _ (blk_lt HM.out) (by have e1 := HW.out.2.1; have e2 := H1.out.2.2; simp; omega)).trans HM.out; obtain ⟨rc, rf⟩ := blk_all hm3; have HM3 := Lib.hid hm3; have hk4 := Kp.of_upd hk3 (Nat.le_refl w2.heap.size); have HP := Lib.hid (And.intro (own_kp HI.out.1 (by have e2 := H1.out.2.2; omega) (fun k e => (own_blk HI.out.1 e).2) hk4) (HI.out.2.trans (hk4.mono HI.out.2.size))); have hk0 : 0 ≤ k := hk1.1; have hk9 : k ≤ 129 := (by have := hk1.2; omega); clear hk1 hk2 hk3 hk4 hm3)))
  have e1 := HW.out.2.1
  have e2 := H1.out.2.2
  have hbl : Below w.heap.size w w3 := (HW.out.2.2.1.trans (H1.out.2.1.mono (by omega))).trans (HP.out.2.below (by omega) (by omega))
  have hZ : ((w3.setCell ⟨w.heap.size, 0, none⟩ (.slice sb d.nodes.length kb)).setCell ⟨w.heap.size, 1, none⟩ (.int .i64 d.root)).heap[w.heap.size]? = some (.cells #[.slice sb d.nodes.length kb, .int .i64 d.root] 25 (0, 0)) := by
    simpa using blk_set (o := 1) (v := .int .i64 d.root) (blk_set (o := 0) (v := .slice sb d.nodes.length kb) HM3.out)
  have hown := own_set_ne (own_set_ne (b := w.heap.size) (o := 0) HP.out.1 (by intro e; have := (own_blk HP.out.1 e).1; omega) (.slice sb d.nodes.length kb)) (b := w.heap.size) (o := 1) (by intro e; have := (own_blk HP.out.1 e).1; omega) (.int .i64 d.root)
  have hB := (hbl.setCell (p := ⟨w.heap.size, 0, none⟩) (by simp) (.slice sb d.nodes.length kb)).setCell (p := ⟨w.heap.size, 1, none⟩) (by simp) (.int .i64 d.root)
  clear rc rf
  revert hZ hown hB
  generalize ((w3.setCell ⟨w.heap.size, 0, none⟩ (.slice sb d.nodes.length kb)).setCell ⟨w.heap.size, 1, none⟩ (.int .i64 d.root)) = WZ
  intro hZ hown hB
  have cr := (blk_all hZ).1
  exact bodyPost_ret (v := .tuple #[.agg #[.slice sb d.nodes.length kb, .int .i64 d.root], .int .i64 (k - 1)]) (by simp [results, Try.results18, go_sem, cr]) rfl ⟨d, sb, kb, k - 1, rfl, own_base hown (by omega), h2, h3, ⟨by omega, by omega⟩, hB⟩

end Go.Proofs.Ytddmgphlhfilnaa
