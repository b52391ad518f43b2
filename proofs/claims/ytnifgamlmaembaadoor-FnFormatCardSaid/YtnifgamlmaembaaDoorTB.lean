import Derived.Test.YtnifgamlmaembaaDoorTA
import Derived.Test.YtnifgamlmaembaaDoorQ1
import Derived.Test.YtnifgamlmaembaaDoorL4
namespace Go.Proofs.YtnifgamlmaembaaDoor
set_option linter.unusedVariables false
set_option linter.unusedSimpArgs false
open Go.RowKit

/-! Rows of strings: compared, marked, held. -/

theorem strs_get {ls : List Tx} {k : Nat} {x : Tx} (h : ls[k]? = some x) : (strs ls)[k]? = some (sv x) := by
  unfold strs; rw [List.getElem?_map, h]; rfl
theorem strs_len (ls : List Tx) : (strs ls).length = ls.length := by simp [strs]
theorem strs_append (a b : List Tx) : strs a ++ strs b = strs (a ++ b) := by simp [strs]
theorem Sl.str {w wr : World} {s : Option Addr} {xs : List Tx} (h : Sl w s (strs xs)) (hbl : Below w.heap.size w wr) {k : Nat} {x : Tx} (hx : xs[k]? = some x) :
    ∃ b off, s = some ⟨b, off, none⟩ ∧ b < w.heap.size ∧ wr.cell? ⟨b, off + k, none⟩ = some (sv x) := by
  have hlt : k < xs.length := (List.getElem?_eq_some_iff.1 hx).1
  obtain ⟨b, off, rfl, hbw, hcs⟩ := h.at (k := k) (by simpa [strs_len] using hlt)
  exact ⟨b, off, rfl, hbw, by rw [hbl.cell (by exact hbw)]; exact hcs _ _ (strs_get hx)⟩
theorem sv_inj {a b : Tx} (h : sv a = sv b) : a = b := by
  unfold sv at h
  simpa using h
theorem elem_str : ElemOf Tryd.prog 27 9 (.string ⟨#[]⟩) 1 16 :=
  ⟨by kernel_rfl, info_parts (by kernel_rfl), rfl, by omega⟩
theorem ba_eq {x y : Tx} : ((⟨x.toArray⟩ : ByteArray) = ⟨y.toArray⟩) ↔ x = y := by simp

set_option maxHeartbeats 800000 in
theorem eqStringS_any (s t : Option Addr) (xs ys : List Tx) (cap cap2 : Nat) (w : World) (hs : Sl w s (strs xs)) (ht : Sl w t (strs ys)) (hl : xs.length ≤ 1048576) (hl2 : ys.length ≤ 1048576) :
    Calls Tryd.prog 10 #[.slice s xs.length cap, .slice t ys.length cap2] w fun e w' => e = .returned (.bool (decide (xs = ys))) ∧ Drew w w' := by
  have HS : Hid (Sl w s (strs xs) ∧ Sl w t (strs ys)) := ⟨hs, ht⟩
  clear hs ht
  by_cases hc : xs.length = ys.length
  · rw [← hc]
    generalize hn : xs.length = n at hc hl ⊢
    have HC : Hid (xs.length = n ∧ ys.length = n) := ⟨hn, hc.symm⟩
    clear hc hn hl2
    go_enter Tryd.func10, Tryd.ntmps10
    go_wp2
    go_loopw [5] (fun i wr => ∃ k : Nat, k ≤ n ∧ i = .int .i64 k ∧ xs.take k = ys.take k ∧ Drew w wr) (fun i _ => n - (intOf i).toNat)
    case atStart => exact ⟨0, Nat.zero_le _, rfl, rfl, Drew.refl _⟩
    case round =>
      obtain ⟨k, hk, rfl, htk, hd⟩ := hrel
      have HT : Hid (xs.take k = ys.take k) := htk
      have HD := Lib.hid hd
      clear htk hd
      by_cases hlt : k < n
      · obtain ⟨x, hx⟩ := get_of_lt (l := xs) (k := k) (by have := HC.out; omega)
        obtain ⟨y, hy⟩ := get_of_lt (l := ys) (k := k) (by have := HC.out; omega)
        obtain ⟨b, off, rfl, hbw, hz⟩ := HS.out.1.str (HD.out.below _) hx
        obtain ⟨b2, off2, rfl, hbw2, hz2⟩ := HS.out.2.str (HD.out.below _) hy
        unfold sv at hz hz2
        have HR : Hid (_ ∧ _) := Lib.hid ⟨hx, hy⟩
        clear hx hy
        cases hq : (x == y)
        · go_wp2_with fail
          go_quiet (fail)
          go_wp2_with fail
          go_ret
          obtain ⟨hx, hy⟩ := HR.out
          refine ⟨ret_bool ?_, HD.out.n _⟩
          symm; rw [decide_eq_false_iff_not]; intro e; subst e; rw [hx] at hy; cases hy; simp at hq
        · have hxy := eq_of_beq hq
          have HXY := Lib.hid hxy
          clear hxy
          go_wp2_with fail
          go_quiet (fail)
          go_wp2_with fail
          go_roundw
          case rel =>
            obtain ⟨hx, hy⟩ := HR.out
            exact ⟨k + 1, by omega, by go_num, by rw [List.take_add_one, List.take_add_one, HT.out, hx, hy, HXY.out], HD.out.n _⟩
          case measure => simp [intOf]; omega
      · obtain rfl : k = n := by omega
        have he : decide (xs = ys) = true := by
          have h1 := HT.out
          rw [List.take_of_length_le (by have := HC.out; omega), List.take_of_length_le (by have := HC.out; omega)] at h1
          simpa using h1
        have HE := Lib.hid he
        clear he
        go_wp2
        go_ret
        exact ⟨ret_bool HE.out.symm, HD.out⟩
  · have hd : decide (xs = ys) = false := by simp; intro e; exact hc (by rw [e])
    rw [hd]
    clear hd
    go_enter Tryd.func10, Tryd.ntmps10
    go_wp2
    go_ret
    exact ⟨rfl, Drew.refl _⟩

set_option maxHeartbeats 800000 in
theorem sameStrings_any (s t : Option Addr) (xs ys : List Tx) (cap cap2 : Nat) (w : World) (hs : Sl w s (strs xs)) (ht : Sl w t (strs ys)) (hl : xs.length ≤ 1048576) (hl2 : ys.length ≤ 1048576) :
    Calls Tryd.prog 22 #[.slice s xs.length cap, .slice t ys.length cap2] w fun e w' => e = .returned (.bool (decide (xs = ys))) ∧ Drew w w' := by
  have HS : Hid (Sl w s (strs xs) ∧ Sl w t (strs ys)) := ⟨hs, ht⟩
  clear hs ht
  by_cases hc : xs.length = ys.length
  · rw [← hc]
    generalize hn : xs.length = n at hc hl ⊢
    have HC : Hid (xs.length = n ∧ ys.length = n) := ⟨hn, hc.symm⟩
    clear hc hn hl2
    go_enter Tryd.func22, Tryd.ntmps22
    go_wp2
    go_loopw [5] (fun i wr => ∃ k : Nat, k ≤ n ∧ i = .int .i64 k ∧ xs.take k = ys.take k ∧ Drew w wr) (fun i _ => n - (intOf i).toNat)
    case atStart => exact ⟨0, Nat.zero_le _, rfl, rfl, Drew.refl _⟩
    case round =>
      obtain ⟨k, hk, rfl, htk, hd⟩ := hrel
      have HT : Hid (xs.take k = ys.take k) := htk
      have HD := Lib.hid hd
      clear htk hd
      by_cases hlt : k < n
      · obtain ⟨x, hx⟩ := get_of_lt (l := xs) (k := k) (by have := HC.out; omega)
        obtain ⟨y, hy⟩ := get_of_lt (l := ys) (k := k) (by have := HC.out; omega)
        obtain ⟨b, off, rfl, hbw, hz⟩ := HS.out.1.str (HD.out.below _) hx
        obtain ⟨b2, off2, rfl, hbw2, hz2⟩ := HS.out.2.str (HD.out.below _) hy
        unfold sv at hz hz2
        have HR : Hid (_ ∧ _) := Lib.hid ⟨hx, hy⟩
        clear hx hy
        cases hq : (x == y)
        · go_wp2_with fail
          go_quiet (fail)
          go_wp2_with fail
          go_ret
          obtain ⟨hx, hy⟩ := HR.out
          refine ⟨ret_bool ?_, HD.out.n _⟩
          symm; rw [decide_eq_false_iff_not]; intro e; subst e; rw [hx] at hy; cases hy; simp at hq
        · have hxy := eq_of_beq hq
          have HXY := Lib.hid hxy
          clear hxy
          go_wp2_with fail
          go_quiet (fail)
          go_wp2_with fail
          go_roundw
          case rel =>
            obtain ⟨hx, hy⟩ := HR.out
            exact ⟨k + 1, by omega, by go_num, by rw [List.take_add_one, List.take_add_one, HT.out, hx, hy, HXY.out], HD.out.n _⟩
          case measure => simp [intOf]; omega
      · obtain rfl : k = n := by omega
        have he : decide (xs = ys) = true := by
          have h1 := HT.out
          rw [List.take_of_length_le (by have := HC.out; omega), List.take_of_length_le (by have := HC.out; omega)] at h1
          simpa using h1
        have HE := Lib.hid he
        clear he
        go_wp2
        go_ret
        exact ⟨ret_bool HE.out.symm, HD.out⟩
  · have hd : decide (xs = ys) = false := by simp; intro e; exact hc (by rw [e])
    rw [hd]
    clear hd
    go_enter Tryd.func22, Tryd.ntmps22
    go_wp2
    go_ret
    exact ⟨rfl, Drew.refl _⟩

theorem gb_of_below {w w' : World} {row : Option Nat} (h : Below w.heap.size w w') : w.grownBy w' row := ⟨h.os, h.tape, h.output, h.size, fun k hk _ => h.block k hk⟩
theorem own_cellF {w : World} {base : Nat} {e : TypeId} {g n cap : Nat} {ys : List Value} (h : w.ownsRow base e 1 (.slice (some ⟨g, 0, none⟩) n cap) n ys) {j : Nat} (hj : j < n) : ∃ y, w.cell? ⟨g, j, none⟩ = some y ∧ w.frozen? ⟨g, j, none⟩ = false := by
  have hlen : ys.length = n := by simpa using h.1
  obtain ⟨y, hyj⟩ := get_of_lt (l := ys) (k := j) (by omega)
  exact ⟨y, (h.cellAt j (by omega)).trans hyj, h.frozenAt j⟩

def mtxs (k n : Nat) : List Tx := (List.range n).map fun i => mtx (k + i)
theorem mtxs_length (k n : Nat) : (mtxs k n).length = n := by simp [mtxs]
theorem mtxs_get {k n j : Nat} (h : j < n) : (mtxs k n)[j]? = some (mtx (k + j)) := by simp [mtxs, h]

set_option maxHeartbeats 800000 in
theorem markStringS_any (base : Nat) (s : Option Addr) (n cap : Nat) (xs : List Value) (k : Nat) (w : World) (h : w.ownsRow base 9 1 (.slice s n cap) n xs) (hn : n ≤ 1048576) (hk2 : k ≤ 10000000) :
    Calls Tryd.prog 13 #[.slice s n cap, .int .i64 k] w fun e w' => e = .returned (.int .i64 ((k + n : Nat) : Int)) ∧ w'.ownsRow base 9 1 (.slice s n cap) n (strs (mtxs k n)) ∧ w.grownBy w' (Value.slice s n cap).ownBlock := by
  rcases own_some h with ⟨rfl, rfl, rfl⟩ | ⟨g, rfl⟩
  · have HO := Lib.hid h
    clear h
    go_enter Tryd.func13, Tryd.ntmps13
    go_wp2_with fail
    refine wp_loop_rounds 1 ?_
    rw [rounds_succ]
    go_wp2
    go_ret
    exact ⟨ret_int (by simp), World.ownsRow_nil _ _ _ _, World.grownBy.refl _ _⟩
  · have HO := Lib.hid h
    clear h
    go_enter Tryd.func13, Tryd.ntmps13
    go_wp2_with fail
    go_loopw [1, 5] (fun v1 i wr => ∃ (j : Nat) (ys : List Value), j ≤ n ∧ i = .int .i64 j ∧ v1 = .int .i64 ((k + j : Nat) : Int) ∧ (∀ q, q < j → ys[q]? = some (sv (mtx (k + q)))) ∧ wr.ownsRow base 9 1 (.slice (some ⟨g, 0, none⟩) n cap) n ys ∧ w.grownBy wr (some g)) (fun _ i _ => n - (intOf i).toNat)
    case atStart => exact ⟨0, _, Nat.zero_le _, rfl, by simp, fun q hq => by omega, HO.out, World.grownBy.refl _ _⟩
    case round =>
      obtain ⟨j, ys, hj, rfl, rfl, hy, ho, hg⟩ := hrel
      have hlen : ys.length = n := by simpa using ho.1
      by_cases hlt : j < n
      · have HR := Lib.hid (And.intro hy (And.intro ho (And.intro hg hlen)))
        clear hy ho hg hlen
        obtain ⟨K, hK⟩ : ∃ K : Nat, K = k + j := ⟨_, rfl⟩
        have hKn : K ≤ 20000000 := by omega
        rw [← hK]
        have HK := Lib.hid hK
        clear hK
        go_wp2_with (go_at_call 37; refine (markText_any K (by omega) wr).mono ?_; rintro e w2 ⟨rfl, hb⟩; have H2 := Lib.hid (own_below HR.out.2.1 hb); have HB := Lib.hid (HR.out.2.2.1.trans (gb_of_below hb)); obtain ⟨y, hc, hf⟩ := own_cellF H2.out hlt; clear hb; unfold sv)
        obtain ⟨h1, h2⟩ := H2.out.stored j (.string ⟨(mtx K).toArray⟩)
        have hlen := HR.out.2.2.2
        go_roundw
        case rel =>
          refine ⟨j + 1, _, by omega, by go_num, by have := HK.out; go_num, fun q hq => ?_, h1, HB.out.trans h2⟩
          by_cases e : q = j
          · subst e; rw [← HK.out]; simp [hlen, hlt, sv]
          · rw [List.getElem?_set_ne (Ne.symm e)]; exact HR.out.1 q (by omega)
        case measure => simp [intOf]; omega
      · obtain rfl : j = n := by omega
        have e : ys = strs (mtxs k j) := by
          apply List.ext_getElem?
          intro q
          by_cases hq : q < j
          · rw [hy q hq, strs_get (mtxs_get hq)]
          · rw [List.getElem?_eq_none (by omega), List.getElem?_eq_none (by rw [strs_len, mtxs_length]; omega)]
        subst e
        have HR := Lib.hid (And.intro ho hg)
        clear ho hg hy hlen
        go_wp2
        go_ret
        exact ⟨rfl, HR.out.1, HR.out.2⟩

set_option maxHeartbeats 800000 in
theorem heldStringS_any (s : Option Addr) (n cap : Nat) (k : Nat) (w : World) (h : Sl w s (strs (mtxs k n))) (hn : n ≤ 1048576) (hk2 : k ≤ 10000000) :
    Calls Tryd.prog 14 #[.slice s n cap, .int .i64 k] w fun e w' => e = .returned (.int .i64 ((k + n : Nat) : Int)) ∧ Below w.heap.size w w' := by
  have HS := Lib.hid h
  clear h
  go_enter Tryd.func14, Tryd.ntmps14
  go_wp2_with fail
  go_loopw [1, 5] (fun v1 i wr => ∃ j : Nat, j ≤ n ∧ i = .int .i64 j ∧ v1 = .int .i64 ((k + j : Nat) : Int) ∧ Below w.heap.size w wr) (fun _ i _ => n - (intOf i).toNat)
  case atStart => exact ⟨0, Nat.zero_le _, rfl, by simp, Below.refl _ _⟩
  case round =>
    obtain ⟨j, hj, rfl, rfl, hd⟩ := hrel
    obtain ⟨ws, rfl⟩ : ∃ ws, ws = wr := ⟨_, rfl⟩
    have HD := Lib.hid hd
    clear hd
    by_cases hlt : j < n
    · obtain ⟨M, hM⟩ : ∃ M : Nat, M = k + j := ⟨_, rfl⟩
      have hKn : M ≤ 20000000 := by omega
      rw [← hM]
      have HM := Lib.hid hM
      clear hM
      have hg := mtxs_get (k := k) hlt
      rw [← HM.out] at hg
      obtain ⟨b, off, rfl, hbw, hz⟩ := HS.out.str HD.out hg
      have hzd : (ws.drew).cell? ⟨b, off + j, none⟩ = some (sv (mtx M)) := hz
      have hbw2 : b < ws.drew.heap.size := Nat.lt_of_lt_of_le hbw HD.out.size
      have HZ := Lib.hid (And.intro hzd hbw2)
      have heq : (mtx M == mtx M) = true := beq_self_eq_true _
      clear hz hg hzd hbw2 hbw
      go_upto_region 4 with fail
      refine wp_region_T (fun w' => w'.cell? ⟨b, off + j, none⟩ = some (.string ⟨(mtx M).toArray⟩)) (.q 0 (.q 1 (.q 2 (.q 3 (.q 4 (.e 5 (.q 6 .nil))))))) (by kernel_rfl) (by kernel_rfl) (by kernel_rfl) HZ.out.1 ?_
      repeat (first | (refine ordt_s (o := ?_) ?_ ?_ ?_; rotate_left 1; (focus ((simp only [List.getElem?_toArray, List.getElem?_cons_succ, List.getElem?_cons_zero]) <;> rfl)); (focus rfl); simp only [Act.put, List.setIfInBounds_toArray, List.set_cons_zero, List.set_cons_succ]) | (refine ordt_q (o := ?_) (v := ?_) ?_ ?_ ?_ ?_; rotate_left 2; (focus ((simp only [List.getElem?_toArray, List.getElem?_cons_succ, List.getElem?_cons_zero]) <;> rfl)); (focus rfl); (focus (intro w' hS; (try dsimp only at hS); go_split_ands; go_simp; (try (with_reducible rfl)))); simp only [Act.put, List.setIfInBounds_toArray, List.set_cons_zero, List.set_cons_succ]))
      refine ordt_e ?_
      (refine op_e (o := ?_) ?_ ?_ (fun K hK => ?_); rotate_left 1; (focus ((simp only [List.getElem?_toArray, List.getElem?_cons_succ, List.getElem?_cons_zero]) <;> rfl)); (focus rfl); go_simp)
      refine (markText_any M (by omega) _).mono ?_
      rintro e w2 ⟨rfl, hb⟩
      refine hK.out _ _ ((hb.cell (p := ⟨b, off + j, none⟩) HZ.out.2).trans HZ.out.1) ?_
      clear hK K
      have HB := Lib.hid (HD.out.trans (((Below.refl _ _).drew.trans hb).mono HD.out.size))
      clear hb
      unfold sv
      (try simp only [Act.put, List.setIfInBounds_toArray, List.set_cons_zero, List.set_cons_succ])
      repeat (first | (refine ordt_s (o := ?_) ?_ ?_ ?_; rotate_left 1; (focus ((simp only [List.getElem?_toArray, List.getElem?_cons_succ, List.getElem?_cons_zero]) <;> rfl)); (focus rfl); simp only [Act.put, List.setIfInBounds_toArray, List.set_cons_zero, List.set_cons_succ]) | (refine ordt_q (o := ?_) (v := ?_) ?_ ?_ ?_ ?_; rotate_left 2; (focus ((simp only [List.getElem?_toArray, List.getElem?_cons_succ, List.getElem?_cons_zero]) <;> rfl)); (focus rfl); (focus (intro w' hS; (try dsimp only at hS); go_split_ands; go_simp; (try (with_reducible rfl)))); simp only [Act.put, List.setIfInBounds_toArray, List.set_cons_zero, List.set_cons_succ]))
      refine ordt_nil ?_
      go_wp2_with fail
      go_roundw
      case rel => exact ⟨j + 1, by omega, by go_num, by have := HM.out; go_num, HB.out⟩
      case measure => simp [intOf]; omega
    · obtain rfl : j = n := by omega
      go_wp2
      go_ret
      exact ⟨rfl, HD.out⟩

end Go.Proofs.YtnifgamlmaembaaDoor
