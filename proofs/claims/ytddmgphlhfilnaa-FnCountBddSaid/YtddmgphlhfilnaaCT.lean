import Derived.Test.YtddmgphlhfilnaaCS
namespace Go.Proofs.Ytddmgphlhfilnaa
set_option linter.unusedVariables false
set_option linter.unusedSimpArgs false
open Go.RowKit

/-! A diagram and a number of variables are drawn. -/

/-- A diagram under the draw: the result's block, the nodes, the bytes. -/
structure DBd (R : Nat) (s : Option Addr) (c : Nat) (xs : List Int) (w0 : World) (vs : Value) (nd : List Nd) (p : Nat) (w : World) : Prop where
  blk : w.heap[w0.heap.size]? = some (.cells #[.slice none 0 0, .int .i64 0] 25 (0, 0))
  own : w.ownsRow (w0.heap.size + 2) 29 3 vs nd.length (ncells nd)
  rd : Rd w R s c xs p
  bel : Below w0.heap.size w0 w
  hR : R = w0.heap.size + 1
  size : w0.heap.size + 2 ≤ w.heap.size
theorem DBd.upd {R : Nat} {s : Option Addr} {c : Nat} {xs : List Int} {w0 : World} {vs : Value} {nd : List Nd} {p p2 : Nat} {w w2 : World} (h : DBd R s c xs w0 vs nd p w) (hr : Rd w2 R s c xs p2) (hu : Upd R w w2) : DBd R s c xs w0 vs nd p2 w2 := by
  have h1 := h.hR; have h3 := h.size
  have k : Kp R w.heap.size w w2 := Kp.of_upd hu (Nat.le_refl _)
  exact ⟨by rw [hu.block _ (by omega) (by simp; omega)]; exact h.blk, own_kp h.own (by omega) (fun k e => (own_blk h.own e).2) k, hr, h.bel.trans (k.below (by omega) (by omega)), h1, Nat.le_trans h3 hu.size⟩
theorem DBd.alloc {R : Nat} {s : Option Addr} {c : Nat} {xs : List Int} {w0 : World} {vs : Value} {nd : List Nd} {p : Nat} {w : World} (h : DBd R s c xs w0 vs nd p w) (o : Obj) : DBd R s c xs w0 vs nd p (w.alloc o) :=
  h.upd (h.rd.mono ((Below.refl _ _).alloc (Nat.le_refl _) _)) (Upd.of_below ((Below.refl _ _).alloc (Nat.le_refl _) _))
theorem DBd.fin {R : Nat} {s : Option Addr} {c : Nat} {xs : List Int} {w0 : World} {vs : Value} {nd : List Nd} {p : Nat} {w : World} (h : DBd R s c xs w0 vs nd p w) {u : Value} {r : Int} :
    ((w.setCell ⟨w0.heap.size, 0, none⟩ u).setCell ⟨w0.heap.size, 1, none⟩ (.int .i64 r)).heap[w0.heap.size]? = some (.cells #[u, .int .i64 r] 25 (0, 0)) ∧
    ((w.setCell ⟨w0.heap.size, 0, none⟩ u).setCell ⟨w0.heap.size, 1, none⟩ (.int .i64 r)).ownsRow w0.heap.size 29 3 vs nd.length (ncells nd) ∧
    Below w0.heap.size w0 ((w.setCell ⟨w0.heap.size, 0, none⟩ u).setCell ⟨w0.heap.size, 1, none⟩ (.int .i64 r)) :=
  ⟨by simpa using blk_set (o := 1) (v := .int .i64 r) (blk_set (o := 0) (v := u) h.blk),
   own_base (own_set_ne (own_set_ne (b := w0.heap.size) (o := 0) h.own (by intro e; have := (own_blk h.own e).1; omega) u) (b := w0.heap.size) (o := 1) (by intro e; have := (own_blk h.own e).1; omega) (.int .i64 r)) (by omega),
   (h.bel.setCell (p := ⟨w0.heap.size, 0, none⟩) (by simp) u).setCell (p := ⟨w0.heap.size, 1, none⟩) (by simp) (.int .i64 r)⟩

set_option maxRecDepth 100000 in
set_option maxHeartbeats 1600000 in
theorem DrawCountBdd_any (s : Option Addr) (cap : Nat) (xs : List Int) (w : World) (hs : Sl w s (u8s xs)) (hl : xs.length ≤ 1048576) (hcap : xs.length ≤ cap) (hcap2 : cap ≤ 9223372036854775807) (hr : ∀ x ∈ xs, 0 ≤ x ∧ x ≤ 255) :
    Calls Try.prog 22 #[.slice s xs.length cap] w (DrawnBdX (-1) 7 w) := by
  obtain ⟨W0, hW0⟩ : ∃ W0, W0 = w.alloc (.cells #[.slice none 0 0, .int .i64 0] 25) := ⟨_, rfl⟩
  have hz : W0.heap.size = w.heap.size + 1 := by rw [hW0]; simp
  have hb0 : Below w.heap.size w W0 := by rw [hW0]; exact below_alloc _ _
  have hk0 : W0.heap[w.heap.size]? = some (.cells #[.slice none 0 0, .int .i64 0] 25 (0, 0)) := by rw [hW0]; exact blk_new _ _
  have HH := Lib.hid (l20Open_any s cap xs W0 (hs.mono hb0) hl hcap hcap2 hr)
  have HW := Lib.hid (And.intro hW0 (And.intro hz (And.intro hb0 hk0)))
  clear hs hr hW0 hz hb0 hk0
  go_enter Try.func22, Try.ntmps22
  go_upto_region 1 with fail
  rw [← HW.out.1]
  go_upto_region 2 with (go_at_call 56; (with_reducible refine HH.out.mono ?_); rintro e w1 ⟨c, rfl, h1, h2, h3⟩; have H1 := Lib.hid (And.intro h1 (And.intro h2 h3)); clear h1 h2 h3)
  refine wp_region_T (fun _ => True) (.q 0 (.q 2 (.q 6 (.e 1 (.e 3 (.q 4 (.two 5 (.e 7 (.q 8 (.two 9 (.e 10 (.q 11 .nil)) 10 (.e 9 (.q 11 .nil))))) 7 (.two 5 (.q 8 (.two 9 (.e 10 (.q 11 .nil)) 10 (.e 9 (.q 11 .nil)))) 10 (.e 5 (.q 8 (.e 9 (.q 11 .nil)))))))))))) (by kernel_rfl) (by kernel_rfl) (by kernel_rfl) trivial ?_
  have h9 := Lib.hid (And.intro (H1.out.1.mono (Below.refl _ _).drew) (And.intro (H1.out.2.1.trans ((Below.refl _ _).drew)) (show w1.drew.heap.size = W0.heap.size + 1 from H1.out.2.2)))
  clear H1
  revert h9
  generalize w1.drew = wa
  intro H1
  repeat (first | (refine ordt_s (o := ?_) ?_ ?_ ?_; rotate_left 1; (focus ((simp only [List.getElem?_toArray, List.getElem?_cons_succ, List.getElem?_cons_zero]) <;> rfl)); (focus rfl); simp only [Act.put, List.setIfInBounds_toArray, List.set_cons_zero, List.set_cons_succ]) | (refine ordt_q (o := ?_) (v := ?_) ?_ ?_ ?_ ?_; rotate_left 2; (focus ((simp only [List.getElem?_toArray, List.getElem?_cons_succ, List.getElem?_cons_zero]) <;> rfl)); (focus rfl); (focus (intro w' hS; (try dsimp only at hS); go_split_ands; go_simp; (try (with_reducible rfl)))); simp only [Act.put, List.setIfInBounds_toArray, List.set_cons_zero, List.set_cons_succ]))
  refine ordt_e ?_
  (refine op_e (o := ?_) ?_ ?_ (fun K hK => ?_); rotate_left 1; (focus ((simp only [List.getElem?_toArray, List.getElem?_cons_succ, List.getElem?_cons_zero]) <;> rfl)); (focus rfl); go_simp)
  refine (l20Bdd_any _ _ _ _ _ _ _ H1.out.1 (by omega) (by omega) (by omega)).mono ?_
  rintro e wb ⟨d, sb, kb, p', rfl, h1, h2, h3, h4, h5, h6⟩
  have hk : DBd W0.heap.size s c (List.take 2000 xs) w (.slice sb d.nodes.length kb) d.nodes p' wb := by
    have e1 := HW.out.2.1
    have e2 := H1.out.2.2
    refine ⟨?_, ?_, h4, ?_, e1, ?_⟩
    · rw [h6.block _ (by omega) (by omega)]; exact blk_below H1.out.2.1 (by omega) HW.out.2.2.2
    · exact own_base h1 (by omega)
    · exact (HW.out.2.2.1.trans (H1.out.2.1.mono (by omega))).trans (h6.below (by omega) (by omega))
    · have := h6.size; omega
  have hp9 : p' ≤ 2000 := by omega
  refine hK.out _ _ trivial ?_
  clear hK K h1 h4 h5 h6
  have HK := Lib.hid hk
  clear hk
  (try simp only [Act.put, List.setIfInBounds_toArray, List.set_cons_zero, List.set_cons_succ])
  repeat (first | (refine ordt_s (o := ?_) ?_ ?_ ?_; rotate_left 1; (focus ((simp only [List.getElem?_toArray, List.getElem?_cons_succ, List.getElem?_cons_zero]) <;> rfl)); (focus rfl); simp only [Act.put, List.setIfInBounds_toArray, List.set_cons_zero, List.set_cons_succ]) | (refine ordt_q (o := ?_) (v := ?_) ?_ ?_ ?_ ?_; rotate_left 2; (focus ((simp only [List.getElem?_toArray, List.getElem?_cons_succ, List.getElem?_cons_zero]) <;> rfl)); (focus rfl); (focus (intro w' hS; (try dsimp only at hS); go_split_ands; go_simp; (try (with_reducible rfl)))); simp only [Act.put, List.setIfInBounds_toArray, List.set_cons_zero, List.set_cons_succ]))
  refine ordt_e ?_
  (refine op_e (o := ?_) ?_ ?_ (fun K hK => ?_); rotate_left 1; (focus ((simp only [List.getElem?_toArray, List.getElem?_cons_succ, List.getElem?_cons_zero]) <;> rfl)); (focus rfl); go_simp)
  refine (pick_any _ _ _ _ _ _ _ HK.out.rd (by omega) (by omega)).mono ?_
  rintro e wc ⟨k, rfl, hk1, hk2, hk3, -⟩
  refine hK.out _ _ trivial ?_
  clear hK K
  have hk := HK.out.upd hk2 hk3
  have hk0 : 0 ≤ k := hk1.1
  have hk9 : k ≤ 8 := by have := hk1.2; omega
  obtain ⟨m, hm⟩ : ∃ m, k - 1 = m := ⟨_, rfl⟩
  have hwm : IntKind.i64.wrap m = m := IntWalk.i64_in _ ⟨by omega, by omega⟩
  clear hk1 hk2 hk3 HK
  have HK := Lib.hid hk
  clear hk
  (try simp only [Act.put, List.setIfInBounds_toArray, List.set_cons_zero, List.set_cons_succ])
  repeat (first | (refine ordt_s (o := ?_) ?_ ?_ ?_; rotate_left 1; (focus ((simp only [List.getElem?_toArray, List.getElem?_cons_succ, List.getElem?_cons_zero]) <;> rfl)); (focus rfl); simp only [Act.put, List.setIfInBounds_toArray, List.set_cons_zero, List.set_cons_succ]) | (refine ordt_q (o := ?_) (v := ?_) ?_ ?_ ?_ ?_; rotate_left 2; (focus ((simp only [List.getElem?_toArray, List.getElem?_cons_succ, List.getElem?_cons_zero]) <;> rfl)); (focus rfl); (focus (intro w' hS; (try dsimp only at hS); go_split_ands; go_simp; (try (with_reducible rfl)))); simp only [Act.put, List.setIfInBounds_toArray, List.set_cons_zero, List.set_cons_succ]))
  refine ordt_two ?_ ?_
  · (refine op_e (o := ?_) ?_ ?_ (fun K hK => ?_); rotate_left 1; (focus ((simp only [List.getElem?_toArray, List.getElem?_cons_succ, List.getElem?_cons_zero]) <;> rfl)); (focus rfl); go_simp)
    obtain ⟨CB, hCB⟩ : ∃ CB, CB = wc.heap.size := ⟨_, rfl⟩
    have hA := HK.out.alloc (.cells #[.int .i64 7, .int .i64 m] 3)
    have hC := blk_new wc (.cells #[.int .i64 7, .int .i64 m] 3)
    have hNs := HK.out.size
    rw [← hCB] at hC hNs
    rw [← hCB]
    clear hCB
    revert hA hC
    generalize wc.alloc (.cells #[.int .i64 7, .int .i64 m] 3) = WA
    intro hA hC
    refine hK.out _ _ trivial ?_
    clear hK K
    have HK := Lib.hid hA
    have HC := Lib.hid hC
    have HNs := Lib.hid hNs
    clear hA hC hNs
    (try simp only [Act.put, List.setIfInBounds_toArray, List.set_cons_zero, List.set_cons_succ])
    repeat (first | (refine ordt_s (o := ?_) ?_ ?_ ?_; rotate_left 1; (focus ((simp only [List.getElem?_toArray, List.getElem?_cons_succ, List.getElem?_cons_zero]) <;> rfl)); (focus rfl); simp only [Act.put, List.setIfInBounds_toArray, List.set_cons_zero, List.set_cons_succ]) | (refine ordt_q (o := ?_) (v := ?_) ?_ ?_ ?_ ?_; rotate_left 2; (focus ((simp only [List.getElem?_toArray, List.getElem?_cons_succ, List.getElem?_cons_zero]) <;> rfl)); (focus rfl); (focus (intro w' hS; (try dsimp only at hS); go_split_ands; go_simp; (try (with_reducible rfl)))); simp only [Act.put, List.setIfInBounds_toArray, List.set_cons_zero, List.set_cons_succ]))
    refine ordt_e ?_
    (refine op_e (o := ?_) ?_ ?_ (fun K hK => ?_); rotate_left 1; (focus ((simp only [List.getElem?_toArray, List.getElem?_cons_succ, List.getElem?_cons_zero]) <;> rfl)); (focus rfl); go_simp)
    refine (pick_any _ _ _ _ _ _ _ HK.out.rd (by omega) (by omega)).mono ?_
    rintro e wd ⟨k2, rfl, hk1, hk2, hk3, -⟩
    refine hK.out _ _ trivial ?_
    clear hK K
    obtain ⟨q3, rfl⟩ : ∃ q3 : Nat, k2 = q3 := ⟨k2.toNat, by have := hk1.1; omega⟩
    have hq3 : q3 ≤ 1 := by have := hk1.2; omega
    have hqi : (q3 : Int) < 2 := by omega
    have hblk := (hk3.block _ (blk_lt HC.out) (by have h1 := HK.out.hR; have h2 := HNs.out; simp; omega)).trans HC.out
    have hk := HK.out.upd hk2 hk3
    clear HK HC hk1 hk2 hk3
    have HK := Lib.hid hk
    have HC := Lib.hid hblk
    clear hk hblk
    (try simp only [Act.put, List.setIfInBounds_toArray, List.set_cons_zero, List.set_cons_succ])
    repeat (first | (refine ordt_s (o := ?_) ?_ ?_ ?_; rotate_left 1; (focus ((simp only [List.getElem?_toArray, List.getElem?_cons_succ, List.getElem?_cons_zero]) <;> rfl)); (focus rfl); simp only [Act.put, List.setIfInBounds_toArray, List.set_cons_zero, List.set_cons_succ]) | (refine ordt_q (o := ?_) (v := ?_) ?_ ?_ ?_ ?_; rotate_left 2; (focus ((simp only [List.getElem?_toArray, List.getElem?_cons_succ, List.getElem?_cons_zero]) <;> rfl)); (focus rfl); (focus (intro w' hS; (try dsimp only at hS); go_split_ands; go_simp; (try (with_reducible rfl)))); simp only [Act.put, List.setIfInBounds_toArray, List.set_cons_zero, List.set_cons_succ]))
    refine ordt_two ?_ ?_
    · obtain ⟨Z, hZ1, hZ2, hZc⟩ : ∃ Z : Int, -1 ≤ Z ∧ Z ≤ 7 ∧ wd.cell? ⟨CB, q3, none⟩ = some (.int .i64 Z) := by
        rcases (show q3 = 0 ∨ q3 = 1 by omega) with e | e
        · rw [e]; exact ⟨7, by omega, by omega, blk_cell HC.out⟩
        · rw [e]; exact ⟨m, by omega, by omega, blk_cell HC.out⟩
      (refine op_e (o := ?_) ?_ ?_ (fun K hK => ?_); rotate_left 1; (focus ((simp only [List.getElem?_toArray, List.getElem?_cons_succ, List.getElem?_cons_zero]) <;> rfl)); (focus rfl); go_simp)
      refine hK.out _ _ trivial ?_
      clear hK K hZc
      (try simp only [Act.put, List.setIfInBounds_toArray, List.set_cons_zero, List.set_cons_succ])
      repeat (first | (refine ordt_s (o := ?_) ?_ ?_ ?_; rotate_left 1; (focus ((simp only [List.getElem?_toArray, List.getElem?_cons_succ, List.getElem?_cons_zero]) <;> rfl)); (focus rfl); simp only [Act.put, List.setIfInBounds_toArray, List.set_cons_zero, List.set_cons_succ]) | (refine ordt_q (o := ?_) (v := ?_) ?_ ?_ ?_ ?_; rotate_left 2; (focus ((simp only [List.getElem?_toArray, List.getElem?_cons_succ, List.getElem?_cons_zero]) <;> rfl)); (focus rfl); (focus (intro w' hS; (try dsimp only at hS); go_split_ands; go_simp; (try (with_reducible rfl)))); simp only [Act.put, List.setIfInBounds_toArray, List.set_cons_zero, List.set_cons_succ]))
      refine ordt_e ?_
      obtain ⟨rc, rf⟩ := blk_all HK.out.blk
      (refine op_e (o := ?_) ?_ ?_ (fun K hK => ?_); rotate_left 1; (focus ((simp only [List.getElem?_toArray, List.getElem?_cons_succ, List.getElem?_cons_zero]) <;> rfl)); (focus rfl); go_simp)
      refine hK.out _ _ trivial ?_
      clear hK K rc rf
      have hfin := HK.out.fin (u := .slice sb d.nodes.length kb) (r := d.root)
      have hsz := HK.out.size
      revert hfin
      generalize hWZ : ((wd.setCell ⟨w.heap.size, 0, none⟩ (.slice sb d.nodes.length kb)).setCell ⟨w.heap.size, 1, none⟩ (.int .i64 d.root)) = WZ
      intro hfin
      have HF := Lib.hid hfin
      have HSZ : Hid (w.heap.size + 2 ≤ WZ.heap.size) := (by rw [← hWZ]; simpa using hsz : w.heap.size + 2 ≤ WZ.heap.size)
      clear hfin hsz
      clear hWZ
      (try simp only [Act.put, List.setIfInBounds_toArray, List.set_cons_zero, List.set_cons_succ])
      repeat (first | (refine ordt_s (o := ?_) ?_ ?_ ?_; rotate_left 1; (focus ((simp only [List.getElem?_toArray, List.getElem?_cons_succ, List.getElem?_cons_zero]) <;> rfl)); (focus rfl); simp only [Act.put, List.setIfInBounds_toArray, List.set_cons_zero, List.set_cons_succ]) | (refine ordt_q (o := ?_) (v := ?_) ?_ ?_ ?_ ?_; rotate_left 2; (focus ((simp only [List.getElem?_toArray, List.getElem?_cons_succ, List.getElem?_cons_zero]) <;> rfl)); (focus rfl); (focus (intro w' hS; (try dsimp only at hS); go_split_ands; go_simp; (try (with_reducible rfl)))); simp only [Act.put, List.setIfInBounds_toArray, List.set_cons_zero, List.set_cons_succ]))
      refine ordt_nil ?_
      go_wp2_with fail
      obtain ⟨hZ, hown, hB⟩ := HF.out
      have cr := (blk_all hZ).1
      exact bodyPost_ret (v := .tuple #[.agg #[.slice sb d.nodes.length kb, .int .i64 d.root], .int .i64 Z]) (by simp [results, Try.results22, go_sem, cr]) rfl ⟨d, sb, kb, Z, rfl, hown, h2, h3, ⟨hZ1, hZ2⟩, hB⟩
    · obtain ⟨rc, rf⟩ := blk_all HK.out.blk
      (refine op_e (o := ?_) ?_ ?_ (fun K hK => ?_); rotate_left 1; (focus ((simp only [List.getElem?_toArray, List.getElem?_cons_succ, List.getElem?_cons_zero]) <;> rfl)); (focus rfl); go_simp)
      refine hK.out _ _ trivial ?_
      clear hK K rc rf
      have hfin := HK.out.fin (u := .slice sb d.nodes.length kb) (r := d.root)
      have hsz := HK.out.size
      revert hfin
      generalize hWZ : ((wd.setCell ⟨w.heap.size, 0, none⟩ (.slice sb d.nodes.length kb)).setCell ⟨w.heap.size, 1, none⟩ (.int .i64 d.root)) = WZ
      intro hfin
      have HF := Lib.hid hfin
      have HSZ : Hid (w.heap.size + 2 ≤ WZ.heap.size) := (by rw [← hWZ]; simpa using hsz : w.heap.size + 2 ≤ WZ.heap.size)
      clear hfin hsz
      have HC := Lib.hid (show WZ.heap[CB]? = some (.cells #[.int .i64 7, .int .i64 m] 3 (0, 0)) from by rw [← hWZ]; exact blk_set_ne (o := 1) (v := .int .i64 d.root) (by have := HNs.out; omega) (blk_set_ne (o := 0) (v := .slice sb d.nodes.length kb) (by have := HNs.out; omega) HC.out))
      clear hWZ
      (try simp only [Act.put, List.setIfInBounds_toArray, List.set_cons_zero, List.set_cons_succ])
      repeat (first | (refine ordt_s (o := ?_) ?_ ?_ ?_; rotate_left 1; (focus ((simp only [List.getElem?_toArray, List.getElem?_cons_succ, List.getElem?_cons_zero]) <;> rfl)); (focus rfl); simp only [Act.put, List.setIfInBounds_toArray, List.set_cons_zero, List.set_cons_succ]) | (refine ordt_q (o := ?_) (v := ?_) ?_ ?_ ?_ ?_; rotate_left 2; (focus ((simp only [List.getElem?_toArray, List.getElem?_cons_succ, List.getElem?_cons_zero]) <;> rfl)); (focus rfl); (focus (intro w' hS; (try dsimp only at hS); go_split_ands; go_simp; (try (with_reducible rfl)))); simp only [Act.put, List.setIfInBounds_toArray, List.set_cons_zero, List.set_cons_succ]))
      refine ordt_e ?_
      obtain ⟨Z, hZ1, hZ2, hZc⟩ : ∃ Z : Int, -1 ≤ Z ∧ Z ≤ 7 ∧ WZ.cell? ⟨CB, q3, none⟩ = some (.int .i64 Z) := by
        rcases (show q3 = 0 ∨ q3 = 1 by omega) with e | e
        · rw [e]; exact ⟨7, by omega, by omega, blk_cell HC.out⟩
        · rw [e]; exact ⟨m, by omega, by omega, blk_cell HC.out⟩
      (refine op_e (o := ?_) ?_ ?_ (fun K hK => ?_); rotate_left 1; (focus ((simp only [List.getElem?_toArray, List.getElem?_cons_succ, List.getElem?_cons_zero]) <;> rfl)); (focus rfl); go_simp)
      refine hK.out _ _ trivial ?_
      clear hK K hZc
      (try simp only [Act.put, List.setIfInBounds_toArray, List.set_cons_zero, List.set_cons_succ])
      repeat (first | (refine ordt_s (o := ?_) ?_ ?_ ?_; rotate_left 1; (focus ((simp only [List.getElem?_toArray, List.getElem?_cons_succ, List.getElem?_cons_zero]) <;> rfl)); (focus rfl); simp only [Act.put, List.setIfInBounds_toArray, List.set_cons_zero, List.set_cons_succ]) | (refine ordt_q (o := ?_) (v := ?_) ?_ ?_ ?_ ?_; rotate_left 2; (focus ((simp only [List.getElem?_toArray, List.getElem?_cons_succ, List.getElem?_cons_zero]) <;> rfl)); (focus rfl); (focus (intro w' hS; (try dsimp only at hS); go_split_ands; go_simp; (try (with_reducible rfl)))); simp only [Act.put, List.setIfInBounds_toArray, List.set_cons_zero, List.set_cons_succ]))
      refine ordt_nil ?_
      go_wp2_with fail
      obtain ⟨hZ, hown, hB⟩ := HF.out
      have cr := (blk_all hZ).1
      exact bodyPost_ret (v := .tuple #[.agg #[.slice sb d.nodes.length kb, .int .i64 d.root], .int .i64 Z]) (by simp [results, Try.results22, go_sem, cr]) rfl ⟨d, sb, kb, Z, rfl, hown, h2, h3, ⟨hZ1, hZ2⟩, hB⟩
  · (refine op_e (o := ?_) ?_ ?_ (fun K hK => ?_); rotate_left 1; (focus ((simp only [List.getElem?_toArray, List.getElem?_cons_succ, List.getElem?_cons_zero]) <;> rfl)); (focus rfl); go_simp)
    refine (pick_any _ _ _ _ _ _ _ HK.out.rd (by omega) (by omega)).mono ?_
    rintro e wd ⟨k2, rfl, hk1, hk2, hk3, -⟩
    refine hK.out _ _ trivial ?_
    clear hK K
    obtain ⟨q3, rfl⟩ : ∃ q3 : Nat, k2 = q3 := ⟨k2.toNat, by have := hk1.1; omega⟩
    have hq3 : q3 ≤ 1 := by have := hk1.2; omega
    have hqi : (q3 : Int) < 2 := by omega
    have hk := HK.out.upd hk2 hk3
    clear HK hk1 hk2 hk3
    have HK := Lib.hid hk
    clear hk
    (try simp only [Act.put, List.setIfInBounds_toArray, List.set_cons_zero, List.set_cons_succ])
    repeat (first | (refine ordt_s (o := ?_) ?_ ?_ ?_; rotate_left 1; (focus ((simp only [List.getElem?_toArray, List.getElem?_cons_succ, List.getElem?_cons_zero]) <;> rfl)); (focus rfl); simp only [Act.put, List.setIfInBounds_toArray, List.set_cons_zero, List.set_cons_succ]) | (refine ordt_q (o := ?_) (v := ?_) ?_ ?_ ?_ ?_; rotate_left 2; (focus ((simp only [List.getElem?_toArray, List.getElem?_cons_succ, List.getElem?_cons_zero]) <;> rfl)); (focus rfl); (focus (intro w' hS; (try dsimp only at hS); go_split_ands; go_simp; (try (with_reducible rfl)))); simp only [Act.put, List.setIfInBounds_toArray, List.set_cons_zero, List.set_cons_succ]))
    refine ordt_two ?_ ?_
    · (refine op_e (o := ?_) ?_ ?_ (fun K hK => ?_); rotate_left 1; (focus ((simp only [List.getElem?_toArray, List.getElem?_cons_succ, List.getElem?_cons_zero]) <;> rfl)); (focus rfl); go_simp)
      obtain ⟨CB, hCB⟩ : ∃ CB, CB = wd.heap.size := ⟨_, rfl⟩
      have hA := HK.out.alloc (.cells #[.int .i64 7, .int .i64 m] 3)
      have hC := blk_new wd (.cells #[.int .i64 7, .int .i64 m] 3)
      have hNs := HK.out.size
      rw [← hCB] at hC hNs
      rw [← hCB]
      clear hCB
      revert hA hC
      generalize wd.alloc (.cells #[.int .i64 7, .int .i64 m] 3) = WA
      intro hA hC
      refine hK.out _ _ trivial ?_
      clear hK K
      have HK := Lib.hid hA
      have HC := Lib.hid hC
      have HNs := Lib.hid hNs
      clear hA hC hNs
      (try simp only [Act.put, List.setIfInBounds_toArray, List.set_cons_zero, List.set_cons_succ])
      repeat (first | (refine ordt_s (o := ?_) ?_ ?_ ?_; rotate_left 1; (focus ((simp only [List.getElem?_toArray, List.getElem?_cons_succ, List.getElem?_cons_zero]) <;> rfl)); (focus rfl); simp only [Act.put, List.setIfInBounds_toArray, List.set_cons_zero, List.set_cons_succ]) | (refine ordt_q (o := ?_) (v := ?_) ?_ ?_ ?_ ?_; rotate_left 2; (focus ((simp only [List.getElem?_toArray, List.getElem?_cons_succ, List.getElem?_cons_zero]) <;> rfl)); (focus rfl); (focus (intro w' hS; (try dsimp only at hS); go_split_ands; go_simp; (try (with_reducible rfl)))); simp only [Act.put, List.setIfInBounds_toArray, List.set_cons_zero, List.set_cons_succ]))
      refine ordt_two ?_ ?_
      · obtain ⟨Z, hZ1, hZ2, hZc⟩ : ∃ Z : Int, -1 ≤ Z ∧ Z ≤ 7 ∧ WA.cell? ⟨CB, q3, none⟩ = some (.int .i64 Z) := by
          rcases (show q3 = 0 ∨ q3 = 1 by omega) with e | e
          · rw [e]; exact ⟨7, by omega, by omega, blk_cell HC.out⟩
          · rw [e]; exact ⟨m, by omega, by omega, blk_cell HC.out⟩
        (refine op_e (o := ?_) ?_ ?_ (fun K hK => ?_); rotate_left 1; (focus ((simp only [List.getElem?_toArray, List.getElem?_cons_succ, List.getElem?_cons_zero]) <;> rfl)); (focus rfl); go_simp)
        refine hK.out _ _ trivial ?_
        clear hK K hZc
        (try simp only [Act.put, List.setIfInBounds_toArray, List.set_cons_zero, List.set_cons_succ])
        repeat (first | (refine ordt_s (o := ?_) ?_ ?_ ?_; rotate_left 1; (focus ((simp only [List.getElem?_toArray, List.getElem?_cons_succ, List.getElem?_cons_zero]) <;> rfl)); (focus rfl); simp only [Act.put, List.setIfInBounds_toArray, List.set_cons_zero, List.set_cons_succ]) | (refine ordt_q (o := ?_) (v := ?_) ?_ ?_ ?_ ?_; rotate_left 2; (focus ((simp only [List.getElem?_toArray, List.getElem?_cons_succ, List.getElem?_cons_zero]) <;> rfl)); (focus rfl); (focus (intro w' hS; (try dsimp only at hS); go_split_ands; go_simp; (try (with_reducible rfl)))); simp only [Act.put, List.setIfInBounds_toArray, List.set_cons_zero, List.set_cons_succ]))
        refine ordt_e ?_
        obtain ⟨rc, rf⟩ := blk_all HK.out.blk
        (refine op_e (o := ?_) ?_ ?_ (fun K hK => ?_); rotate_left 1; (focus ((simp only [List.getElem?_toArray, List.getElem?_cons_succ, List.getElem?_cons_zero]) <;> rfl)); (focus rfl); go_simp)
        refine hK.out _ _ trivial ?_
        clear hK K rc rf
        have hfin := HK.out.fin (u := .slice sb d.nodes.length kb) (r := d.root)
        have hsz := HK.out.size
        revert hfin
        generalize hWZ : ((WA.setCell ⟨w.heap.size, 0, none⟩ (.slice sb d.nodes.length kb)).setCell ⟨w.heap.size, 1, none⟩ (.int .i64 d.root)) = WZ
        intro hfin
        have HF := Lib.hid hfin
        have HSZ : Hid (w.heap.size + 2 ≤ WZ.heap.size) := (by rw [← hWZ]; simpa using hsz : w.heap.size + 2 ≤ WZ.heap.size)
        clear hfin hsz
        clear hWZ
        (try simp only [Act.put, List.setIfInBounds_toArray, List.set_cons_zero, List.set_cons_succ])
        repeat (first | (refine ordt_s (o := ?_) ?_ ?_ ?_; rotate_left 1; (focus ((simp only [List.getElem?_toArray, List.getElem?_cons_succ, List.getElem?_cons_zero]) <;> rfl)); (focus rfl); simp only [Act.put, List.setIfInBounds_toArray, List.set_cons_zero, List.set_cons_succ]) | (refine ordt_q (o := ?_) (v := ?_) ?_ ?_ ?_ ?_; rotate_left 2; (focus ((simp only [List.getElem?_toArray, List.getElem?_cons_succ, List.getElem?_cons_zero]) <;> rfl)); (focus rfl); (focus (intro w' hS; (try dsimp only at hS); go_split_ands; go_simp; (try (with_reducible rfl)))); simp only [Act.put, List.setIfInBounds_toArray, List.set_cons_zero, List.set_cons_succ]))
        refine ordt_nil ?_
        go_wp2_with fail
        obtain ⟨hZ, hown, hB⟩ := HF.out
        have cr := (blk_all hZ).1
        exact bodyPost_ret (v := .tuple #[.agg #[.slice sb d.nodes.length kb, .int .i64 d.root], .int .i64 Z]) (by simp [results, Try.results22, go_sem, cr]) rfl ⟨d, sb, kb, Z, rfl, hown, h2, h3, ⟨hZ1, hZ2⟩, hB⟩
      · obtain ⟨rc, rf⟩ := blk_all HK.out.blk
        (refine op_e (o := ?_) ?_ ?_ (fun K hK => ?_); rotate_left 1; (focus ((simp only [List.getElem?_toArray, List.getElem?_cons_succ, List.getElem?_cons_zero]) <;> rfl)); (focus rfl); go_simp)
        refine hK.out _ _ trivial ?_
        clear hK K rc rf
        have hfin := HK.out.fin (u := .slice sb d.nodes.length kb) (r := d.root)
        have hsz := HK.out.size
        revert hfin
        generalize hWZ : ((WA.setCell ⟨w.heap.size, 0, none⟩ (.slice sb d.nodes.length kb)).setCell ⟨w.heap.size, 1, none⟩ (.int .i64 d.root)) = WZ
        intro hfin
        have HF := Lib.hid hfin
        have HSZ : Hid (w.heap.size + 2 ≤ WZ.heap.size) := (by rw [← hWZ]; simpa using hsz : w.heap.size + 2 ≤ WZ.heap.size)
        clear hfin hsz
        have HC := Lib.hid (show WZ.heap[CB]? = some (.cells #[.int .i64 7, .int .i64 m] 3 (0, 0)) from by rw [← hWZ]; exact blk_set_ne (o := 1) (v := .int .i64 d.root) (by have := HNs.out; omega) (blk_set_ne (o := 0) (v := .slice sb d.nodes.length kb) (by have := HNs.out; omega) HC.out))
        clear hWZ
        (try simp only [Act.put, List.setIfInBounds_toArray, List.set_cons_zero, List.set_cons_succ])
        repeat (first | (refine ordt_s (o := ?_) ?_ ?_ ?_; rotate_left 1; (focus ((simp only [List.getElem?_toArray, List.getElem?_cons_succ, List.getElem?_cons_zero]) <;> rfl)); (focus rfl); simp only [Act.put, List.setIfInBounds_toArray, List.set_cons_zero, List.set_cons_succ]) | (refine ordt_q (o := ?_) (v := ?_) ?_ ?_ ?_ ?_; rotate_left 2; (focus ((simp only [List.getElem?_toArray, List.getElem?_cons_succ, List.getElem?_cons_zero]) <;> rfl)); (focus rfl); (focus (intro w' hS; (try dsimp only at hS); go_split_ands; go_simp; (try (with_reducible rfl)))); simp only [Act.put, List.setIfInBounds_toArray, List.set_cons_zero, List.set_cons_succ]))
        refine ordt_e ?_
        obtain ⟨Z, hZ1, hZ2, hZc⟩ : ∃ Z : Int, -1 ≤ Z ∧ Z ≤ 7 ∧ WZ.cell? ⟨CB, q3, none⟩ = some (.int .i64 Z) := by
          rcases (show q3 = 0 ∨ q3 = 1 by omega) with e | e
          · rw [e]; exact ⟨7, by omega, by omega, blk_cell HC.out⟩
          · rw [e]; exact ⟨m, by omega, by omega, blk_cell HC.out⟩
        (refine op_e (o := ?_) ?_ ?_ (fun K hK => ?_); rotate_left 1; (focus ((simp only [List.getElem?_toArray, List.getElem?_cons_succ, List.getElem?_cons_zero]) <;> rfl)); (focus rfl); go_simp)
        refine hK.out _ _ trivial ?_
        clear hK K hZc
        (try simp only [Act.put, List.setIfInBounds_toArray, List.set_cons_zero, List.set_cons_succ])
        repeat (first | (refine ordt_s (o := ?_) ?_ ?_ ?_; rotate_left 1; (focus ((simp only [List.getElem?_toArray, List.getElem?_cons_succ, List.getElem?_cons_zero]) <;> rfl)); (focus rfl); simp only [Act.put, List.setIfInBounds_toArray, List.set_cons_zero, List.set_cons_succ]) | (refine ordt_q (o := ?_) (v := ?_) ?_ ?_ ?_ ?_; rotate_left 2; (focus ((simp only [List.getElem?_toArray, List.getElem?_cons_succ, List.getElem?_cons_zero]) <;> rfl)); (focus rfl); (focus (intro w' hS; (try dsimp only at hS); go_split_ands; go_simp; (try (with_reducible rfl)))); simp only [Act.put, List.setIfInBounds_toArray, List.set_cons_zero, List.set_cons_succ]))
        refine ordt_nil ?_
        go_wp2_with fail
        obtain ⟨hZ, hown, hB⟩ := HF.out
        have cr := (blk_all hZ).1
        exact bodyPost_ret (v := .tuple #[.agg #[.slice sb d.nodes.length kb, .int .i64 d.root], .int .i64 Z]) (by simp [results, Try.results22, go_sem, cr]) rfl ⟨d, sb, kb, Z, rfl, hown, h2, h3, ⟨hZ1, hZ2⟩, hB⟩
    · obtain ⟨rc, rf⟩ := blk_all HK.out.blk
      (refine op_e (o := ?_) ?_ ?_ (fun K hK => ?_); rotate_left 1; (focus ((simp only [List.getElem?_toArray, List.getElem?_cons_succ, List.getElem?_cons_zero]) <;> rfl)); (focus rfl); go_simp)
      refine hK.out _ _ trivial ?_
      clear hK K rc rf
      have hfin := HK.out.fin (u := .slice sb d.nodes.length kb) (r := d.root)
      have hsz := HK.out.size
      revert hfin
      generalize hWZ : ((wd.setCell ⟨w.heap.size, 0, none⟩ (.slice sb d.nodes.length kb)).setCell ⟨w.heap.size, 1, none⟩ (.int .i64 d.root)) = WZ
      intro hfin
      have HF := Lib.hid hfin
      have HSZ : Hid (w.heap.size + 2 ≤ WZ.heap.size) := (by rw [← hWZ]; simpa using hsz : w.heap.size + 2 ≤ WZ.heap.size)
      clear hfin hsz
      clear hWZ
      (try simp only [Act.put, List.setIfInBounds_toArray, List.set_cons_zero, List.set_cons_succ])
      repeat (first | (refine ordt_s (o := ?_) ?_ ?_ ?_; rotate_left 1; (focus ((simp only [List.getElem?_toArray, List.getElem?_cons_succ, List.getElem?_cons_zero]) <;> rfl)); (focus rfl); simp only [Act.put, List.setIfInBounds_toArray, List.set_cons_zero, List.set_cons_succ]) | (refine ordt_q (o := ?_) (v := ?_) ?_ ?_ ?_ ?_; rotate_left 2; (focus ((simp only [List.getElem?_toArray, List.getElem?_cons_succ, List.getElem?_cons_zero]) <;> rfl)); (focus rfl); (focus (intro w' hS; (try dsimp only at hS); go_split_ands; go_simp; (try (with_reducible rfl)))); simp only [Act.put, List.setIfInBounds_toArray, List.set_cons_zero, List.set_cons_succ]))
      refine ordt_e ?_
      (refine op_e (o := ?_) ?_ ?_ (fun K hK => ?_); rotate_left 1; (focus ((simp only [List.getElem?_toArray, List.getElem?_cons_succ, List.getElem?_cons_zero]) <;> rfl)); (focus rfl); go_simp)
      obtain ⟨CB, hCB⟩ : ∃ CB, CB = WZ.heap.size := ⟨_, rfl⟩
      have hA := HF.out
      have hb := below_alloc WZ (.cells #[.int .i64 7, .int .i64 m] 3)
      have hA2 := And.intro (blk_below hb (blk_lt hA.1) hA.1) (And.intro (own_below hA.2.1 hb) (hA.2.2.trans (hb.mono hA.2.2.size)))
      have hC := blk_new WZ (.cells #[.int .i64 7, .int .i64 m] 3)
      rw [← hCB] at hC
      rw [← hCB]
      clear hCB hA hb
      revert hA2 hC
      generalize WZ.alloc (.cells #[.int .i64 7, .int .i64 m] 3) = WA
      intro hA2 hC
      refine hK.out _ _ trivial ?_
      clear hK K
      have HF := Lib.hid hA2
      have HC := Lib.hid hC
      clear hA2 hC
      (try simp only [Act.put, List.setIfInBounds_toArray, List.set_cons_zero, List.set_cons_succ])
      repeat (first | (refine ordt_s (o := ?_) ?_ ?_ ?_; rotate_left 1; (focus ((simp only [List.getElem?_toArray, List.getElem?_cons_succ, List.getElem?_cons_zero]) <;> rfl)); (focus rfl); simp only [Act.put, List.setIfInBounds_toArray, List.set_cons_zero, List.set_cons_succ]) | (refine ordt_q (o := ?_) (v := ?_) ?_ ?_ ?_ ?_; rotate_left 2; (focus ((simp only [List.getElem?_toArray, List.getElem?_cons_succ, List.getElem?_cons_zero]) <;> rfl)); (focus rfl); (focus (intro w' hS; (try dsimp only at hS); go_split_ands; go_simp; (try (with_reducible rfl)))); simp only [Act.put, List.setIfInBounds_toArray, List.set_cons_zero, List.set_cons_succ]))
      refine ordt_e ?_
      obtain ⟨Z, hZ1, hZ2, hZc⟩ : ∃ Z : Int, -1 ≤ Z ∧ Z ≤ 7 ∧ WA.cell? ⟨CB, q3, none⟩ = some (.int .i64 Z) := by
        rcases (show q3 = 0 ∨ q3 = 1 by omega) with e | e
        · rw [e]; exact ⟨7, by omega, by omega, blk_cell HC.out⟩
        · rw [e]; exact ⟨m, by omega, by omega, blk_cell HC.out⟩
      (refine op_e (o := ?_) ?_ ?_ (fun K hK => ?_); rotate_left 1; (focus ((simp only [List.getElem?_toArray, List.getElem?_cons_succ, List.getElem?_cons_zero]) <;> rfl)); (focus rfl); go_simp)
      refine hK.out _ _ trivial ?_
      clear hK K hZc
      (try simp only [Act.put, List.setIfInBounds_toArray, List.set_cons_zero, List.set_cons_succ])
      repeat (first | (refine ordt_s (o := ?_) ?_ ?_ ?_; rotate_left 1; (focus ((simp only [List.getElem?_toArray, List.getElem?_cons_succ, List.getElem?_cons_zero]) <;> rfl)); (focus rfl); simp only [Act.put, List.setIfInBounds_toArray, List.set_cons_zero, List.set_cons_succ]) | (refine ordt_q (o := ?_) (v := ?_) ?_ ?_ ?_ ?_; rotate_left 2; (focus ((simp only [List.getElem?_toArray, List.getElem?_cons_succ, List.getElem?_cons_zero]) <;> rfl)); (focus rfl); (focus (intro w' hS; (try dsimp only at hS); go_split_ands; go_simp; (try (with_reducible rfl)))); simp only [Act.put, List.setIfInBounds_toArray, List.set_cons_zero, List.set_cons_succ]))
      refine ordt_nil ?_
      go_wp2_with fail
      obtain ⟨hZ, hown, hB⟩ := HF.out
      have cr := (blk_all hZ).1
      exact bodyPost_ret (v := .tuple #[.agg #[.slice sb d.nodes.length kb, .int .i64 d.root], .int .i64 Z]) (by simp [results, Try.results22, go_sem, cr]) rfl ⟨d, sb, kb, Z, rfl, hown, h2, h3, ⟨hZ1, hZ2⟩, hB⟩

end Go.Proofs.Ytddmgphlhfilnaa
