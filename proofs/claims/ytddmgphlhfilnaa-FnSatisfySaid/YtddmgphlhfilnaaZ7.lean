import Derived.Test.YtddmgphlhfilnaaZ6
import Derived.Test.YtddmgphlhfilnaaZ2
import Derived.Test.YtddmgphlhfilnaaCC
namespace Go.Proofs.Ytddmgphlhfilnaa
set_option linter.unusedVariables false
set_option linter.unusedSimpArgs false
open Go.RowKit

/-! Formulas: a clause row under values; rows compared; a literal exists. -/

theorem any_snoc {r : List Int} {f : Int → Bool} {m : Nat} {n : Int} (h : r[m]? = some n) : (r.take (m + 1)).any f = ((r.take m).any f || f n) := by
  rw [List.take_add_one, h]; simp
theorem satN_pos {vs : List Int} {q : Nat} {v : Int} (hq : 0 < (q : Int)) (h : vs[q]? = some v) : satN vs (q : Int) = decide (v = 1) := by
  unfold satN
  rw [Int.toNat_natCast]
  simp only [List.getD_eq_getElem?_getD]
  rw [h, decide_eq_true hq, decide_eq_false (show ¬ (q : Int) < 0 by omega)]
  simp
theorem satN_neg {vs : List Int} {q : Nat} {v : Int} (hq : 0 < (q : Int)) (h : vs[q]? = some v) : satN vs (-(q : Int)) = decide (v = -1) := by
  unfold satN
  rw [Int.neg_neg, Int.toNat_natCast]
  simp only [List.getD_eq_getElem?_getD]
  rw [h, decide_eq_false (show ¬ 0 < -(q : Int) by omega), decide_eq_true (show -(q : Int) < 0 by omega)]
  simp

set_option maxHeartbeats 1600000 in
theorem holds_any (s sv : Option Addr) (cap cv : Nat) (rows : List (List Int)) (vs : List Int) (w : World) (hs : SlS w s rows) (hv : Sl w sv (ints vs)) (hn : rows.length ≤ 1000) (hr : ∀ r ∈ rows, r.length ≤ 1000) (hl : vs.length = 26) (h25 : ∀ r ∈ rows, ∀ n ∈ r, lit25 n) :
    Calls Try.prog 51 #[.slice s rows.length cap, .slice sv 26 cv] w fun e w' => e = .returned (.bool (holdsV vs rows)) ∧ w = w' := by
  have HS : Hid (SlS w s rows ∧ Sl w sv (ints vs) ∧ (∀ r ∈ rows, r.length ≤ 1000) ∧ vs.length = 26 ∧ (∀ r ∈ rows, ∀ n ∈ r, lit25 n)) := ⟨hs, hv, hr, hl, h25⟩
  clear hs hv hr hl h25
  go_enter Try.func51, Try.ntmps51
  go_wp2
  go_loop [5] (fun i => ∃ k : Nat, k ≤ rows.length ∧ i = .int .i64 k ∧ holdsV vs (rows.take k) = true) (fun i => rows.length - (intOf i).toNat)
  case atStart => exact ⟨0, Nat.zero_le _, rfl, rfl⟩
  case round =>
    obtain ⟨k, hk, rfl, hP⟩ := hrel
    have HP := Lib.hid hP
    clear hP
    by_cases hlt : k < rows.length
    · obtain ⟨r, hrk⟩ := get_of_lt hlt
      obtain ⟨b, off, sr, cr, rfl, hbw, hz, hsr⟩ := HS.out.1.row (Below.refl _ _) hrk
      have hrl := HS.out.2.2.1 r (List.mem_of_getElem? hrk)
      have hr25 := HS.out.2.2.2.2 r (List.mem_of_getElem? hrk)
      have HR := Lib.hid (And.intro hrk (And.intro hsr hr25))
      have hsu : Hid (holdsV vs (rows.take (k + 1)) = r.any (satN vs)) := by
        have h1 := HP.out
        unfold holdsV at h1
        show _ = _
        unfold holdsV
        rw [List.take_add_one, hrk, List.all_append, h1]; simp
      clear hrk hsr hr25
      go_wp2
      go_loop [7, 6] (fun i g => ∃ m : Nat, m ≤ r.length ∧ i = .int .i64 m ∧ g = .bool ((r.take m).any (satN vs))) (fun i _ => r.length - (intOf i).toNat)
      case atStart => exact ⟨0, Nat.zero_le _, rfl, rfl⟩
      case round =>
        obtain ⟨m, hm, rfl, rfl⟩ := hrel
        by_cases hlt2 : m < r.length
        · obtain ⟨n, hx⟩ := get_of_lt hlt2
          obtain ⟨b2, off2, rfl, hbw2, hz2⟩ := HR.out.2.1.int (Below.refl _ _) hx
          obtain ⟨n0, n1, n2⟩ := HR.out.2.2 n (List.mem_of_getElem? hx)
          have hsn := any_snoc (f := satN vs) hx
          obtain ⟨A, hA⟩ : ∃ A, A = (r.take m).any (satN vs) := ⟨_, rfl⟩
          rw [← hA] at hsn ⊢
          by_cases hp : 0 < n
          · obtain ⟨q, rfl⟩ : ∃ q : Nat, n = q := ⟨n.toNat, by omega⟩
            obtain ⟨v, hv⟩ := get_of_lt (l := vs) (k := q) (by rw [HS.out.2.2.2.1]; omega)
            obtain ⟨b3, off3, rfl, hbw3, hz3⟩ := HS.out.2.1.int (Below.refl _ _) hv
            rw [satN_pos hp hv] at hsn
            have HN := Lib.hid hsn
            clear hx hv hA hsn n0
            cases A
            · by_cases e : v = 1
              · subst e
                go_wp2
                go_round
                case rel => exact ⟨m + 1, by omega, by go_num, by rw [HN.out]; rfl⟩
                case measure => simp [intOf]; omega
              · go_wp2
                go_round
                case rel => exact ⟨m + 1, by omega, by go_num, by rw [HN.out, decide_eq_false e]; simp [e]⟩
                case measure => simp [intOf]; omega
            · go_wp2
              go_round
              case rel => exact ⟨m + 1, by omega, by go_num, by rw [HN.out]; rfl⟩
              case measure => simp [intOf]; omega
          · obtain ⟨q, hq⟩ : ∃ q : Nat, -n = q := ⟨(-n).toNat, by omega⟩
            obtain rfl : n = -(q : Int) := by omega
            obtain ⟨v, hv⟩ := get_of_lt (l := vs) (k := q) (by rw [HS.out.2.2.2.1]; omega)
            obtain ⟨b3, off3, rfl, hbw3, hz3⟩ := HS.out.2.1.int (Below.refl _ _) hv
            have hq0 : 0 < (q : Int) := by omega
            rw [satN_neg hq0 hv] at hsn
            have HN := Lib.hid hsn
            clear hx hv hA hsn n0 hq
            cases A
            · by_cases e : v = -1
              · subst e
                go_wp2
                go_round
                case rel => exact ⟨m + 1, by omega, by go_num, by rw [HN.out]; rfl⟩
                case measure => simp [intOf]; omega
              · go_wp2
                go_round
                case rel => exact ⟨m + 1, by omega, by go_num, by rw [HN.out, decide_eq_false e]; simp [e]⟩
                case measure => simp [intOf]; omega
            · go_wp2
              go_round
              case rel => exact ⟨m + 1, by omega, by go_num, by rw [HN.out]; rfl⟩
              case measure => simp [intOf]; omega
        · obtain rfl : m = r.length := by omega
          rw [List.take_length]
          have h1 := hsu.out
          obtain ⟨A, hA⟩ : ∃ A, A = r.any (satN vs) := ⟨_, rfl⟩
          rw [← hA] at h1 ⊢
          have HN := Lib.hid (And.intro h1 hA)
          clear h1 hA
          cases A
          · go_wp2
            go_ret
            refine ⟨ret_bool ?_, rfl⟩
            symm
            have h2 := HN.out.2
            unfold holdsV
            rw [List.all_eq_false]
            exact ⟨r, List.mem_of_getElem? HR.out.1, by rw [← h2]; simp⟩
          · go_wp2
            go_round
            case rel => exact ⟨k + 1, by omega, by go_num, HN.out.1⟩
            case measure => simp [intOf]; omega
    · obtain rfl : k = rows.length := by omega
      have h1 := HP.out
      rw [List.take_length] at h1
      have HP2 := Lib.hid h1
      clear h1
      go_wp2
      go_ret
      exact ⟨ret_bool HP2.out.symm, rfl⟩

end Go.Proofs.Ytddmgphlhfilnaa
