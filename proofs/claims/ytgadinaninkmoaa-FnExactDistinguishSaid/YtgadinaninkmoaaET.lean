import Derived.Test.YtgadinaninkmoaaDM
import Derived.Test.YtgadinaninkmoaaC0
import Derived.Test.YtgadinaninkmoaaBB
import Derived.Test.YtgadinaninkmoaaQ1
import Derived.Test.YtgadinaninkmoaaP2
namespace Go.Proofs.Ytgadinaninkmoaa
set_option linter.unusedVariables false
set_option linter.unusedSimpArgs false
open Go.RowKit

/-! Marks of circuits and of distinctions. -/

set_option maxHeartbeats 400000 in
theorem markCircuitK_any (base : Nat) (c : Cir) (k inp : Int) (sn sg so : Option Addr) (cn cg co : Nat) (w : World) (h : CirOwn w base c (.slice sn c.next.length cn) (.slice sg c.gates.length cg) (.slice so c.outs.length co)) (hk : 0 ≤ k) (hk2 : k ≤ 10000000) :
    Calls Try.prog 10 #[.agg #[.int .i64 inp, .slice sn c.next.length cn, .slice sg c.gates.length cg, .slice so c.outs.length co], .int .i64 k] w fun e w' => e = .returned (.int .i64 (k + c.next.length + 2 * c.gates.length + c.outs.length)) ∧
      Marked w' base c k (.slice sn c.next.length cn) (.slice sg c.gates.length cg) (.slice so c.outs.length co) ∧ Chg (inCir (.slice sn c.next.length cn) (.slice sg c.gates.length cg) (.slice so c.outs.length co)) w w' := by
  obtain ⟨hn, hg, ho, hne, l1, l2, l3⟩ := h
  have hN := blk_new w (.cells #[.int .i64 inp, .slice sn c.next.length cn, .slice sg c.gates.length cg, .slice so c.outs.length co] 33)
  have hCg : Chg (inCir (.slice sn c.next.length cn) (.slice sg c.gates.length cg) (.slice so c.outs.length co)) w (w.alloc (.cells #[.int .i64 inp, .slice sn c.next.length cn, .slice sg c.gates.length cg, .slice so c.outs.length co] 33)) := Chg.of_below ((Below.refl _ _).alloc (Nat.le_refl _) _)
  have H0 := Lib.hid (And.intro (hn.alloc (.cells #[.int .i64 inp, .slice sn c.next.length cn, .slice sg c.gates.length cg, .slice so c.outs.length co] 33)) (And.intro (hg.alloc (.cells #[.int .i64 inp, .slice sn c.next.length cn, .slice sg c.gates.length cg, .slice so c.outs.length co] 33)) (And.intro (ho.alloc (.cells #[.int .i64 inp, .slice sn c.next.length cn, .slice sg c.gates.length cg, .slice so c.outs.length co] 33)) (And.intro hne (And.intro hN hCg)))))
  have HB : Hid ((∀ q, (Value.slice sn c.next.length cn).ownBlock = some q → q ≠ w.heap.size) ∧ (∀ q, (Value.slice sg c.gates.length cg).ownBlock = some q → q ≠ w.heap.size) ∧ (∀ q, (Value.slice so c.outs.length co).ownBlock = some q → q ≠ w.heap.size)) := ⟨fun q e h => by have := (own_blk hn e).2; omega, fun q e h => by have := (own_blk hg e).2; omega, fun q e h => by have := (own_blk ho e).2; omega⟩
  clear hn hg ho hne hN hCg
  go_enter Try.func10, Try.ntmps10
  go_wp2_with fail
  refine (markIntS_any base sn _ _ _ _ _ H0.out.1 l1 hk (by omega)).mono ?_
  rintro e w1 ⟨rfl, h1, h2⟩
  have C1 := Chg.of_grown h2
  have H1 := Lib.hid (And.intro h1 (And.intro (C1.own H0.out.2.1 (fun q e h => own_ty H0.out.2.1 H0.out.1 (by decide) e h)) (And.intro (C1.own H0.out.2.2.1 (fun q e h => H0.out.2.2.2.1 q h e)) (And.intro (C1.blk H0.out.2.2.2.2.1 (fun h => HB.out.1 _ h rfl)) (H0.out.2.2.2.2.2.trans (C1.mono fun q e => .inl e))))))
  have ca1 := (blk_all H1.out.2.2.2.1).1
  clear h1 h2 C1
  go_wp2_with fail
  refine (markGateS_any base sg _ _ _ _ _ H1.out.2.1 l2 (by omega) (by omega)).mono ?_
  rintro e w2 ⟨rfl, h1, h2⟩
  have C2 := Chg.of_grown h2
  have H2 := Lib.hid (And.intro h1 (And.intro (C2.own H1.out.1 (fun q e h => own_ty H1.out.1 H1.out.2.1 (by decide) e h)) (And.intro (C2.own H1.out.2.2.1 (fun q e h => own_ty H1.out.2.2.1 H1.out.2.1 (by decide) e h)) (And.intro (C2.blk H1.out.2.2.2.1 (fun h => HB.out.2.1 _ h rfl)) (H1.out.2.2.2.2.trans (C2.mono fun q e => .inr (.inl e)))))))
  have ca2 := (blk_all H2.out.2.2.2.1).1
  clear h1 h2 C2 ca1
  go_wp2_with fail
  refine (markIntS_any base so _ _ _ _ _ H2.out.2.2.1 l3 (by omega) (by omega)).mono ?_
  rintro e w3 ⟨rfl, h1, h2⟩
  have C3 := Chg.of_grown h2
  have H3 := Lib.hid (And.intro h1 (And.intro (C3.own H2.out.1 (fun q e h => own_ty H2.out.1 H2.out.2.2.1 (by decide) e h)) (And.intro (C3.own H2.out.2.1 (fun q e h => H0.out.2.2.2.1 q e h)) (H2.out.2.2.2.2.trans (C3.mono fun q e => .inr (.inr e))))))
  clear h1 h2 C3 ca2
  go_wp2
  go_ret
  exact ⟨ret_int (by omega), ⟨H3.out.2.2.1, H3.out.2.1, H3.out.1⟩, H3.out.2.2.2⟩

theorem LenD_inn {a b : Cir} {e : En} {es : List En} {k : Nat} (h : LenD es) (hk : es[k]? = some e) : ∀ m, LenD (innD a b e es m)
  | 0 => h
  | m + 1 => by
    rw [innD_succ]
    unfold addD
    split
    · exact LenD_inn h hk m
    · exact (LenD_inn h hk m).add (innD_get hk m) _ _
theorem outD_len {a b : Cir} {M : Nat} : ∀ (f k : Nat) (es : List En), goodD (2 ^ a.next.length) (2 ^ b.next.length) es → LenD es → ∀ r, outD a b M f k es = some r → r.length ≤ 2 ^ a.next.length * 2 ^ b.next.length
  | 0, k, es, _, _, r, h => by cases h
  | f + 1, k, es, hg, hl, r, h => by
    unfold outD at h
    cases hk : es[k]? with
    | none => rw [hk] at h; cases h
    | some e =>
      rw [hk] at h
      simp only at h
      split at h
      · next x hx =>
        simp only [Option.some.injEq] at h
        have h1 := hl k e hk
        have h2 := (List.getElem?_eq_some_iff.1 hk).1
        have h3 := goodD_len hg
        rw [← h, List.length_append]
        simp only [List.length_cons, List.length_nil]
        omega
      · exact outD_len f (k + 1) _ (goodD_inn hg M) (LenD_inn hl hk M) r h
theorem disR_len {a b : Cir} {r : List Int} (hc : cmpB a b = true) (ha : a.valid) (hb : b.valid) (h : disR a b = some r) : r.length ≤ 1000 := by
  rw [disR_yes hc] at h
  have h1 := outD_len _ _ _ (goodD_start a b) (LenD.start _) r h
  have h2 : 2 ^ a.next.length ≤ 2 ^ 3 := Nat.pow_le_pow_right (by omega) ha.lim.2.2.1
  have h3 : 2 ^ b.next.length ≤ 2 ^ 3 := Nat.pow_le_pow_right (by omega) hb.lim.2.2.1
  have h4 := Nat.mul_le_mul h2 h3
  omega

theorem rowsR_small (a b : Cir) : (rowsR a b).length ≤ 1000 ∧ ∀ r ∈ rowsR a b, r.length ≤ 4 := by
  unfold rowsR
  cases hc : cmpB a b
  · rw [disR_no hc]; exact ⟨Nat.zero_le _, fun r h => (by cases h)⟩
  · obtain ⟨h1, h2, -, -⟩ := cmpB_iff.1 hc
    have ha := a.validB_iff.1 h1
    have hb := b.validB_iff.1 h2
    cases hr : disR a b with
    | none => exact ⟨Nat.zero_le _, fun r h => (by cases h)⟩
    | some r =>
      refine ⟨by show (rowsX _ r).length ≤ _; rw [rowsX_length]; exact disR_len hc ha hb hr, fun x hx => ?_⟩
      obtain ⟨y, -, rfl⟩ := List.mem_map.1 hx
      rw [bitsV_length]
      have := ha.lim.2.1
      omega
theorem lenB_le5 {rows : List (List Bool)} (h3 : rows.length ≤ 1000) (h : ∀ r ∈ rows, r.length ≤ 4) : lenB rows ≤ 4000 := by
  have : lenB rows ≤ 4 * rows.length := by
    clear h3
    induction rows with
    | nil => simp [lenB]
    | cons r rows ih =>
      have h1 := h r (by simp)
      have h2 := ih fun q hq => h q (by simp [hq])
      unfold lenB at *
      simp at *
      omega
  omega

theorem eqDistinction_any (q : Bool) (s t : Option Addr) (m cap cap2 : Nat) (xs : List (List Bool)) (w : World) (hs : SlB w s xs) (ht : SlB w t xs) (hm : xs.length = m) (hl : m ≤ 1000) (hr : ∀ r ∈ xs, r.length ≤ 4) :
    Calls Try.prog 8 #[.agg #[.bool q, .slice s m cap], .agg #[.bool q, .slice t m cap2]] w fun e w' => e = .returned (.bool true) ∧ Below w.heap.size w w' := by
  subst hm
  obtain ⟨W0, hW0⟩ : ∃ W0, W0 = ((w.alloc (.cells #[.bool q, .slice s xs.length cap] 29)).alloc (.cells #[.bool q, .slice t xs.length cap2] 29)) := ⟨_, rfl⟩
  obtain ⟨A, hA⟩ : ∃ A, A = w.heap.size := ⟨_, rfl⟩
  have z2 : W0.heap[A]? = some (.cells #[.bool q, .slice s xs.length cap] 29 (0, 0)) := by rw [hW0, hA]; exact blk_old (blk_new w _)
  have z3 : W0.heap[A + 1]? = some (.cells #[.bool q, .slice t xs.length cap2] 29 (0, 0)) := by rw [hW0, hA]; exact blk_at (by simp)
  have z4 : Below w.heap.size w W0 := by rw [hW0]; go_grown
  have HW := Lib.hid (And.intro hW0 hA)
  have H := Lib.hid (And.intro (hs.mono z4) (And.intro (ht.mono z4) (And.intro z4 hr)))
  have ca := (blk_all z2).1
  have cb := (blk_all z3).1
  clear hs ht hr hW0 hA z2 z3 z4
  cases q
  all_goals
    go_enter Try.func8, Try.ntmps8
    go_upto_region 1 with fail
    rw [← HW.out.1, ← HW.out.2]
    go_wp2_with (go_at_call 27; ((with_reducible refine (eqBoolSS_any s t xs xs _ _ _ H.out.1 H.out.2.1 (by omega) (by omega) (fun r h => by have := H.out.2.2.2 r h; omega) (fun r h => by have := H.out.2.2.2 r h; omega)).mono ?_); rintro e w7 ⟨rfl, n7, rfl⟩; rw [decide_eq_true (rfl : xs = xs)]))
    go_ret
    exact ⟨rfl, below_n H.out.2.2.1 n7⟩

set_option maxHeartbeats 800000 in
theorem markBoolSSf_any (base : Nat) (s : Option Addr) (cap : Nat) (vs : List Value) (rows : List (List Bool)) (k : Int) (w : World) (h : OwnSB w base (.slice s rows.length cap) vs rows) (hn : rows.length ≤ 1000) (hr : ∀ r ∈ rows, r.length ≤ 1000) (hk : 0 ≤ k) (hk2 : k ≤ 1000) :
    Calls Try.prog 32 #[.slice s rows.length cap, .int .i64 k] w fun e w' => e = .returned (.int .i64 (k + lenB rows)) ∧ OwnSB w' base (.slice s rows.length cap) vs (markB k rows) ∧ Chg (fun q => ∃ u ∈ vs, u.ownBlock = some q) w w' := by
  have H := Lib.hid (And.intro h (And.intro hr (lenB_tk rows hr)))
  clear h hr
  go_enter Try.func32, Try.ntmps32
  go_wp2_with fail
  go_loopw [1, 5] (fun v1 i wr => ∃ j : Nat, j ≤ rows.length ∧ i = .int .i64 j ∧ v1 = .int .i64 (k + lenB (rows.take j)) ∧
      (∀ (i : Nat) (u : Value) (r : List Bool), vs[i]? = some u → rows[i]? = some r → wr.ownsRow base 4 1 u r.length (bools (if i < j then jota (k + lenB (rows.take i)) r.length else r))) ∧ wr.ownsRow base 44 1 (.slice s rows.length cap) rows.length vs ∧ Chg (fun q => ∃ u ∈ vs, u.ownBlock = some q) w wr) (fun _ i _ => rows.length - (intOf i).toNat)
  case atStart => exact ⟨0, Nat.zero_le _, rfl, by simp [lenB], fun i u r h1 h2 => by simpa using H.out.1.row i u r h1 h2, H.out.1.out, Chg.refl _ _⟩
  case round =>
    obtain ⟨j, hj, rfl, rfl, hb, ho, hc⟩ := hrel
    have hL0 := lenB_nonneg (rows.take j)
    have hL1 := H.out.2.2 j
    by_cases hlt : j < rows.length
    · obtain ⟨r, hrj⟩ := get_of_lt hlt
      obtain ⟨u, huj⟩ := H.out.1.get hrj
      obtain ⟨g, rfl⟩ : ∃ g, s = some ⟨g, 0, none⟩ := by
        rcases own_some ho with ⟨_, e, _⟩ | ⟨g, e⟩
        · omega
        · exact ⟨g, e⟩
      have hor : wr.ownsRow base 4 1 u r.length (bools r) := by simpa using hb j u r huj hrj
      obtain ⟨su, cu, rfl⟩ := own_shape hor
      have hz : wr.cell? ⟨g, j, none⟩ = some (.slice su r.length cu) := (ho.cellAt j (by omega)).trans huj
      have hrl := H.out.2.1 r (List.mem_of_getElem? hrj)
      have hsn := lenB_snoc hrj
      have HR := Lib.hid (And.intro hb (And.intro ho (And.intro hc (And.intro hrj (And.intro huj (And.intro hor hsn))))))
      clear hb ho hc hrj huj hor hsn
      go_wp2_with (go_at_call 52; ((refine (markBoolS_any base su r.length cu r _ _ HR.out.2.2.2.2.2.1 (by omega) (by omega) (by omega)).mono ?_); rintro e w1 ⟨rfl, ho1, hg1⟩; have HM := Lib.hid (And.intro ho1 (Chg.of_grown hg1)); clear ho1 hg1))
      obtain ⟨hb, ho, hc, hrj, huj, hor, hsn⟩ := HR.out
      go_roundw
      case rel =>
        refine ⟨j + 1, by omega, by go_num, by rw [hsn]; go_num, fun i u' r' h1 h2 => ?_, HM.out.2.own ho (fun k hk e => own_ty ho hor (by decide) hk e), hc.trans (HM.out.2.mono fun q e => ⟨_, List.mem_of_getElem? huj, e⟩)⟩
        by_cases e : i = j
        · subst e
          rw [huj] at h1; cases h1
          rw [hrj] at h2; cases h2
          rw [if_pos (by omega)]; exact HM.out.1
        · have h3 := hb i u' r' h1 h2
          have h4 := HM.out.2.own h3 (fun q hq eq => e (H.out.1.inj i j u' _ q h1 huj hq eq))
          have : (i < j + 1) = (i < j) := by apply propext; omega
          simp only [this]
          exact h4
      case measure => simp [intOf]; omega
    · obtain rfl : j = rows.length := by omega
      have hR : OwnSB wr base (.slice s rows.length cap) vs (markB k rows) := by
        refine ⟨by rw [markB_length]; exact ho, fun i u r' h1 h2 => ?_, H.out.1.inj⟩
        obtain ⟨r, hri⟩ := H.out.1.rget h1
        have hi := (List.getElem?_eq_some_iff.1 hri).1
        rw [markB_get hri] at h2; cases h2
        have := hb i u r h1 hri
        rw [if_pos hi] at this
        rw [jota_length]; exact this
      have HR := Lib.hid (And.intro hR hc)
      clear hR hc hb ho
      go_wp2
      go_ret
      exact ⟨ret_int (by rw [List.take_length]), HR.out.1, HR.out.2⟩

theorem markDistinction_any (q : Bool) (base : Nat) (s : Option Addr) (m cap : Nat) (vs : List Value) (rows : List (List Bool)) (k : Int) (w : World) (h : OwnSB w base (.slice s m cap) vs rows) (hm : rows.length = m) (hb : base ≤ w.heap.size) (hn : m ≤ 1000) (hr : ∀ r ∈ rows, r.length ≤ 4) (hk : 0 ≤ k) (hk2 : k ≤ 1000) :
    Calls Try.prog 11 #[.agg #[.bool q, .slice s m cap], .int .i64 k] w fun e w' => e = .returned (.int .i64 (k + lenB rows)) ∧ OwnSB w' base (.slice s m cap) vs (markB k rows) ∧ Chg (fun q => ∃ u ∈ vs, u.ownBlock = some q) w w' := by
  subst hm
  have z2 := blk_new w (.cells #[.bool q, .slice s rows.length cap] 29)
  have z4 := (Below.refl w.heap.size w).alloc (Nat.le_refl _) (.cells #[.bool q, .slice s rows.length cap] 29)
  have H := Lib.hid (And.intro (h.below z4) (And.intro z4 hr))
  have ca := (blk_all z2).1
  have hlb := lenB_le5 hn hr
  have hlb0 := lenB_nonneg rows
  clear h z2 hr
  go_enter Try.func11, Try.ntmps11
  go_upto_region 1 with fail
  revert H ca
  generalize w.alloc (.cells #[.bool q, .slice s rows.length cap] 29) = W0
  intro H ca
  go_wp2_with (go_at_call 32; ((with_reducible refine (markBoolSSf_any base s cap vs rows k _ H.out.1 hn (fun r hx => by have := H.out.2.2 r hx; omega) hk hk2).mono ?_); rintro e w7 ⟨rfl, h1, h2⟩; have H7 := Lib.hid (And.intro h1 h2); clear h1 h2 ca))
  go_ret
  exact ⟨rfl, H7.out.1, (Chg.of_below H.out.2.1).trans H7.out.2⟩

theorem heldDistinction_any (q : Bool) (s : Option Addr) (m cap : Nat) (rows : List (List Bool)) (k : Int) (w : World) (h : SlB w s (markB k rows)) (hm : rows.length = m) (hn : m ≤ 1000) (hr : ∀ r ∈ rows, r.length ≤ 4) (hk : 0 ≤ k) (hk2 : k ≤ 1000) :
    Calls Try.prog 12 #[.agg #[.bool q, .slice s m cap], .int .i64 k] w fun e w' => e = .returned (.int .i64 (k + lenB rows)) ∧ Below w.heap.size w w' := by
  subst hm
  have z2 := blk_new w (.cells #[.bool q, .slice s rows.length cap] 29)
  have z4 := (Below.refl w.heap.size w).alloc (Nat.le_refl _) (.cells #[.bool q, .slice s rows.length cap] 29)
  have H := Lib.hid (And.intro (h.mono z4) (And.intro z4 hr))
  have ca := (blk_all z2).1
  have hlb := lenB_le5 hn hr
  have hlb0 := lenB_nonneg rows
  clear h z2 hr
  go_enter Try.func12, Try.ntmps12
  go_upto_region 1 with fail
  revert H ca
  generalize w.alloc (.cells #[.bool q, .slice s rows.length cap] 29) = W0
  intro H ca
  go_wp2_with (go_at_call 33; ((with_reducible refine (heldBoolSS_any s cap rows k _ H.out.1 hn (fun r hx => by have := H.out.2.2 r hx; omega) hk hk2).mono ?_); rintro e w7 ⟨rfl, n7, rfl⟩))
  go_ret
  exact ⟨rfl, below_n H.out.2.1 n7⟩

end Go.Proofs.Ytgadinaninkmoaa
