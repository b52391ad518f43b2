import Derived.Test.YtnmafbggpjglaaaZ6
import Derived.Test.YtnmafbggpjglaaaZ5
namespace Go.Proofs.Ytnmafbggpjglaaa
set_option linter.unusedVariables false
set_option linter.unusedSimpArgs false
open Go.RowKit

/-! Formulas: a clause row under values; rows compared; a literal exists. -/

theorem any_snoc {r : List Int} {f : Int → Bool} {m : Nat} {n : Int} (h : r[m]? = some n) : (r.take (m + 1)).any f = ((r.take m).any f || f n) := by
  rw [List.take_add_one, h]; simp
theorem satN_pos {vs : List Int} {q : Nat} {v : Int} (hq : 0 < (q : Int)) (h : vs[q]? = some v) : satN vs (q : Int) = decide (v = 1) := by
  unfold satN
  rw [Int.toNat_natCast]
  simp only [List.getD_eq_getElem?_getD]
  rw [h, decide_eq_true hq, decide_eq_false (show ¬ (q : Int) < 0 by omega)]
  simp
theorem satN_neg {vs : List Int} {q : Nat} {v : Int} (hq : 0 < (q : Int)) (h : vs[q]? = some v) : satN vs (-(q : Int)) = decide (v = -1) := by
  unfold satN
  rw [Int.neg_neg, Int.toNat_natCast]
  simp only [List.getD_eq_getElem?_getD]
  rw [h, decide_eq_false (show ¬ 0 < -(q : Int) by omega), decide_eq_true (show -(q : Int) < 0 by omega)]
  simp

set_option maxHeartbeats 1600000 in
theorem holds_any (s sv : Option Addr) (cap cv : Nat) (rows : List (List Int)) (vs : List Int) (w : World) (hs : SlS w s rows) (hv : Sl w sv (ints vs)) (hn : rows.length ≤ 1000) (hr : ∀ r ∈ rows, r.length ≤ 1000) (hl : vs.length = 26) (h25 : ∀ r ∈ rows, ∀ n ∈ r, lit25 n) :
    Calls Try.prog 33 #[.slice s rows.length cap, .slice sv 26 cv] w fun e w' => e = .returned (.bool (holdsV vs rows)) ∧ w = w' := by
  have HS : Hid (SlS w s rows ∧ Sl w sv (ints vs) ∧ (∀ r ∈ rows, r.length ≤ 1000) ∧ vs.length = 26 ∧ (∀ r ∈ rows, ∀ n ∈ r, lit25 n)) := ⟨hs, hv, hr, hl, h25⟩
  clear hs hv hr hl h25
  go_enter Try.func33, Try.ntmps33
  go_wp2
  go_loop [5] (fun i => ∃ k : Nat, k ≤ rows.length ∧ i = .int .i64 k ∧ holdsV vs (rows.take k) = true) (fun i => rows.length - (intOf i).toNat)
  case atStart => exact ⟨0, Nat.zero_le _, rfl, rfl⟩
  case round =>
    obtain ⟨k, hk, rfl, hP⟩ := hrel
    have HP := Lib.hid hP
    clear hP
    by_cases hlt : k < rows.length
    · obtain ⟨r, hrk⟩ := get_of_lt hlt
      obtain ⟨b, off, sr, cr, rfl, hbw, hz, hsr⟩ := HS.out.1.row (Below.refl _ _) hrk
      have hrl := HS.out.2.2.1 r (List.mem_of_getElem? hrk)
      have hr25 := HS.out.2.2.2.2 r (List.mem_of_getElem? hrk)
      have HR := Lib.hid (And.intro hrk (And.intro hsr hr25))
      have hsu : Hid (holdsV vs (rows.take (k + 1)) = r.any (satN vs)) := by
        have h1 := HP.out
        unfold holdsV at h1
        show _ = _
        unfold holdsV
        rw [List.take_add_one, hrk, List.all_append, h1]; simp
      clear hrk hsr hr25
      go_wp2
      go_loop [7, 6] (fun i g => ∃ m : Nat, m ≤ r.length ∧ i = .int .i64 m ∧ g = .bool ((r.take m).any (satN vs))) (fun i _ => r.length - (intOf i).toNat)
      case atStart => exact ⟨0, Nat.zero_le _, rfl, rfl⟩
      case round =>
        obtain ⟨m, hm, rfl, rfl⟩ := hrel
        by_cases hlt2 : m < r.length
        · obtain ⟨n, hx⟩ := get_of_lt hlt2
          obtain ⟨b2, off2, rfl, hbw2, hz2⟩ := HR.out.2.1.int (Below.refl _ _) hx
          obtain ⟨n0, n1, n2⟩ := HR.out.2.2 n (List.mem_of_getElem? hx)
          have hsn := any_snoc (f := satN vs) hx
          obtain ⟨A, hA⟩ : ∃ A, A = (r.take m).any (satN vs) := ⟨_, rfl⟩
          rw [← hA] at hsn ⊢
          by_cases hp : 0 < n
          · obtain ⟨q, rfl⟩ : ∃ q : Nat, n = q := ⟨n.toNat, by omega⟩
            obtain ⟨v, hv⟩ := get_of_lt (l := vs) (k := q) (by rw [HS.out.2.2.2.1]; omega)
            obtain ⟨b3, off3, rfl, hbw3, hz3⟩ := HS.out.2.1.int (Below.refl _ _) hv
            rw [satN_pos hp hv] at hsn
            have HN := Lib.hid hsn
            clear hx hv hA hsn n0
            cases A
            · by_cases e : v = 1
              · subst e
                go_wp2
                go_round
                case rel => exact ⟨m + 1, by omega, by go_num, by rw [HN.out]; rfl⟩
                case measure => simp [intOf]; omega
              · go_wp2
                go_round
                case rel => exact ⟨m + 1, by omega, by go_num, by rw [HN.out, decide_eq_false e]; simp [e]⟩
                case measure => simp [intOf]; omega
            · go_wp2
              go_round
              case rel => exact ⟨m + 1, by omega, by go_num, by rw [HN.out]; rfl⟩
              case measure => simp [intOf]; omega
          · obtain ⟨q, hq⟩ : ∃ q : Nat, -n = q := ⟨(-n).toNat, by omega⟩
            obtain rfl : n = -(q : Int) := by omega
            obtain ⟨v, hv⟩ := get_of_lt (l := vs) (k := q) (by rw [HS.out.2.2.2.1]; omega)
            obtain ⟨b3, off3, rfl, hbw3, hz3⟩ := HS.out.2.1.int (Below.refl _ _) hv
            have hq0 : 0 < (q : Int) := by omega
            rw [satN_neg hq0 hv] at hsn
            have HN := Lib.hid hsn
            clear hx hv hA hsn n0 hq
            cases A
            · by_cases e : v = -1
              · subst e
                go_wp2
                go_round
                case rel => exact ⟨m + 1, by omega, by go_num, by rw [HN.out]; rfl⟩
                case measure => simp [intOf]; omega
              · go_wp2
                go_round
                case rel => exact ⟨m + 1, by omega, by go_num, by rw [HN.out, decide_eq_false e]; simp [e]⟩
                case measure => simp [intOf]; omega
            · go_wp2
              go_round
              case rel => exact ⟨m + 1, by omega, by go_num, by rw [HN.out]; rfl⟩
              case measure => simp [intOf]; omega
        · obtain rfl : m = r.length := by omega
          rw [List.take_length]
          have h1 := hsu.out
          obtain ⟨A, hA⟩ : ∃ A, A = r.any (satN vs) := ⟨_, rfl⟩
          rw [← hA] at h1 ⊢
          have HN := Lib.hid (And.intro h1 hA)
          clear h1 hA
          cases A
          · go_wp2
            go_ret
            refine ⟨ret_bool ?_, rfl⟩
            symm
            have h2 := HN.out.2
            unfold holdsV
            rw [List.all_eq_false]
            exact ⟨r, List.mem_of_getElem? HR.out.1, by rw [← h2]; simp⟩
          · go_wp2
            go_round
            case rel => exact ⟨k + 1, by omega, by go_num, HN.out.1⟩
            case measure => simp [intOf]; omega
    · obtain rfl : k = rows.length := by omega
      have h1 := HP.out
      rw [List.take_length] at h1
      have HP2 := Lib.hid h1
      clear h1
      go_wp2
      go_ret
      exact ⟨ret_bool HP2.out.symm, rfl⟩

set_option maxHeartbeats 800000 in
theorem sameClauses_any (s t : Option Addr) (xs : List (List Int)) (cap cap2 : Nat) (w : World) (hs : SlS w s xs) (ht : SlS w t xs) (hl : xs.length ≤ 100000) (hr : ∀ r ∈ xs, r.length ≤ 100000) :
    Calls Try.prog 29 #[.slice s xs.length cap, .slice t xs.length cap2] w fun e w' => e = .returned (.bool true) ∧ Drew w w' := by
  have HS : Hid ((SlS w s xs ∧ SlS w t xs) ∧ (∀ r ∈ xs, r.length ≤ 100000)) := ⟨⟨hs, ht⟩, hr⟩
  clear hs ht hr
  go_enter Try.func29, Try.ntmps29
  go_wp2
  go_loopw [5] (fun i wr => ∃ k : Nat, k ≤ xs.length ∧ i = .int .i64 k ∧ Drew w wr) (fun i _ => xs.length - (intOf i).toNat)
  case atStart => exact ⟨0, Nat.zero_le _, rfl, Drew.refl _⟩
  case round =>
    obtain ⟨k, hk, rfl, hd⟩ := hrel
    have HD := Lib.hid hd
    clear hd
    by_cases hlt : k < xs.length
    · obtain ⟨x, hx⟩ := get_of_lt (l := xs) (k := k) hlt
      obtain ⟨b, off, sx, cx, rfl, hbw, hz, hsx⟩ := HS.out.1.1.row (HD.out.below _) hx
      obtain ⟨b2, off2, sy, cy, rfl, hbw2, hz2, hsy⟩ := HS.out.1.2.row (HD.out.below _) hx
      have hlx := HS.out.2 x (List.mem_of_getElem? hx)
      have HX : Hid (∀ m, Sl (wr.drewN m) sx (ints x) ∧ Sl (wr.drewN m) sy (ints x)) := fun m => ⟨hsx.mono ((HD.out.n m).below _), hsy.mono ((HD.out.n m).below _)⟩
      clear hx hsx hsy
      go_wp2_with fail
      go_quiet ((go_at_call 15; exact Calls.quiet_of (sameInts_any _ _ _ _ x x _ (HX.out _).1 (HX.out _).2 (by omega) (by omega) rfl)))
      go_wp2
      go_roundw
      case rel => exact ⟨k + 1, by omega, by go_num, HD.out.n _⟩
      case measure => simp [intOf]; omega
    · obtain rfl : k = xs.length := by omega
      go_wp2
      go_ret
      exact ⟨rfl, HD.out⟩

set_option maxHeartbeats 800000 in
theorem litExists_any (v : Value) (c : Cir) (l : Int) (w : World) (h : CirV w v c) (hl : -1000 ≤ l ∧ l ≤ 1000) :
    Calls Try.prog 31 #[v, .int .i64 l] w fun e w' => e = .returned (.bool (decide (tsOk c l))) ∧ Below w.heap.size w w' := by
  have HC : Hid (∀ w', Below w.heap.size w w' → CirV w' v c) := fun w' hb => h.mono hb
  obtain ⟨sn, cn, sg, cg, so, co, rfl, h1, h2, h3, hl1, hl2, hl3⟩ := h
  have hL : Below w.heap.size w (w.alloc (.cells #[.int .i64 c.inp, .slice sn c.next.length cn, .slice sg c.gates.length cg, .slice so c.outs.length co] 26)) := by go_grown
  have hN := blk_new w (.cells #[.int .i64 c.inp, .slice sn c.next.length cn, .slice sg c.gates.length cg, .slice so c.outs.length co] 26)
  have HL := Lib.hid (And.intro hL hN)
  clear h1 h2 h3 hL hN
  have e0 : (tsOk c l) = (c.validB = true ∧ 0 ≤ l ∧ l < 2 * c.vars) := rfl
  obtain ⟨T, hT⟩ : ∃ T, T = decide (tsOk c l) := ⟨_, rfl⟩
  rw [← hT]
  cases hv : c.validB
  · have HV := Lib.hid hv
    have HT : Hid (T = false) := by show _ = _; rw [hT, decide_eq_false_iff_not, e0, hv]; simp
    clear hv e0 hT
    go_enter Try.func31, Try.ntmps31
    go_upto_region 1 with fail
    revert HL
    generalize (w.alloc (.cells #[.int .i64 c.inp, .slice sn c.next.length cn, .slice sg c.gates.length cg, .slice so c.outs.length co] 26)) = W1
    intro HL
    have cb := (blk_all HL.out.2).1
    go_wp2_with (go_at_call 17; ((with_reducible refine (CircuitValid_s _ c _ (HC.out _ HL.out.1)).mono ?_); rintro e w1 ⟨rfl, hq⟩; rw [HV.out]; have H1 := Lib.hid (HL.out.1.trans (hq.mono HL.out.1.size)); clear hq cb))
    go_ret
    exact ⟨ret_bool HT.out.symm, H1.out⟩
  · obtain ⟨VV, hVV⟩ : ∃ VV, VV = c.vars := ⟨_, rfl⟩
    have hT2 : T = decide (0 ≤ l ∧ l < 2 * VV) := by rw [hT, hVV]; exact decide_eq_decide.2 (by rw [e0]; exact ⟨fun h => h.2, fun h => ⟨hv, h⟩⟩)
    have hVb : 0 ≤ VV ∧ VV ≤ 22 := by
      obtain ⟨q1, q2, q3, q4, q5⟩ := (c.validB_iff.1 hv).lim
      have eV : c.vars = 1 + c.inp + c.next.length + c.gates.length := by unfold Cir.vars; rfl
      omega
    obtain ⟨v0, v22⟩ := hVb
    have HV := Lib.hid (And.intro hv hVV)
    have HT := Lib.hid hT2
    clear hv e0 hT hT2 hVV
    go_enter Try.func31, Try.ntmps31
    go_upto_region 1 with fail
    revert HL
    generalize (w.alloc (.cells #[.int .i64 c.inp, .slice sn c.next.length cn, .slice sg c.gates.length cg, .slice so c.outs.length co] 26)) = W1
    intro HL
    have cb := (blk_all HL.out.2).1
    by_cases l0 : 0 ≤ l
    · go_wp2_with (first
        | (go_at_call 17; ((with_reducible refine (CircuitValid_s _ c _ (HC.out _ HL.out.1)).mono ?_); rintro e w1 ⟨rfl, hq⟩; rw [HV.out.1]; have H1 := Lib.hid (And.intro (HL.out.1.trans (hq.mono HL.out.1.size)) (blk_below hq (blk_lt HL.out.2) HL.out.2)); clear hq cb; have cb := (blk_all H1.out.2).1))
        | (go_at_call 25; ((with_reducible refine (VarCount_any _ c _ (HC.out _ H1.out.1) HV.out.1).mono ?_); rintro e w2 ⟨rfl, hq⟩; rw [← HV.out.2]; have H2 := Lib.hid (H1.out.1.trans (hq.mono H1.out.1.size)); clear hq cb)))
      go_ret
      refine ⟨ret_bool ?_, H2.out⟩
      rw [HT.out]
      simp [l0]
    · go_wp2_with (go_at_call 17; ((with_reducible refine (CircuitValid_s _ c _ (HC.out _ HL.out.1)).mono ?_); rintro e w1 ⟨rfl, hq⟩; rw [HV.out.1]; have H1 := Lib.hid (HL.out.1.trans (hq.mono HL.out.1.size)); clear hq cb))
      go_ret
      refine ⟨ret_bool ?_, H1.out⟩
      rw [HT.out]
      symm
      rw [decide_eq_false_iff_not]
      omega

end Go.Proofs.Ytnmafbggpjglaaa
