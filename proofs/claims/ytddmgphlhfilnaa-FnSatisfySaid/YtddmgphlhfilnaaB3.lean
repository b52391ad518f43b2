import Derived.Test.YtddmgphlhfilnaaB2
namespace Go.Proofs.Ytddmgphlhfilnaa
set_option linter.unusedVariables false
set_option linter.unusedSimpArgs false
open Go.RowKit

def lit25 (l : Int) : Prop := l ≠ 0 ∧ -25 ≤ l ∧ l ≤ 25
instance (l : Int) : Decidable (lit25 l) := inferInstanceAs (Decidable (_ ∧ _))
def clauseP (r : List Int) : Prop := r.length ≤ 3 ∧ ∀ l ∈ r, lit25 l
instance (r : List Int) : Decidable (clauseP r) := inferInstanceAs (Decidable (_ ∧ _))
def clausesP (rows : List (List Int)) : Prop := rows.length ≤ 80 ∧ ∀ r ∈ rows, clauseP r
instance (rows : List (List Int)) : Decidable (clausesP rows) := inferInstanceAs (Decidable (_ ∧ _))
def clausesB (rows : List (List Int)) : Bool := decide (clausesP rows)
theorem clausesB_true {rows : List (List Int)} (h : clausesP rows) : clausesB rows = true := by simpa [clausesB] using h
theorem clausesB_false {rows : List (List Int)} (h : ¬ clausesP rows) : clausesB rows = false := by simpa [clausesB] using h
theorem all_snoc {α : Type} {P : α → Prop} {l : List α} {k : Nat} {x : α} (h : ∀ y ∈ l.take k, P y) (hx : l[k]? = some x) (h1 : P x) : ∀ y ∈ l.take (k + 1), P y := by
  rw [List.take_add_one, hx]
  intro y hy
  rcases List.mem_append.1 hy with hy | hy
  · exact h y hy
  · simp at hy; subst hy; exact h1

set_option maxHeartbeats 400000 in
theorem ClausesValid_i (s : Option Addr) (cap : Nat) (rows : List (List Int)) (w : World) (hs : SlS w s rows) (hn : rows.length ≤ 1048576) (hr : ∀ r ∈ rows, r.length ≤ 1048576) :
    Calls Try.prog 81 #[.slice s rows.length cap] w fun e w' => e = .returned (.bool (clausesB rows)) ∧ w = w' := by
  have HS : Hid (SlS w s rows ∧ ∀ r ∈ rows, r.length ≤ 1048576) := ⟨hs, hr⟩
  clear hs hr
  by_cases h80 : rows.length ≤ 80
  · have H80 := Lib.hid h80
    go_enter Try.func81, Try.ntmps81
    go_wp2
    go_loop [12] (fun i => ∃ k : Nat, k ≤ rows.length ∧ i = .int .i64 k ∧ ∀ r ∈ rows.take k, clauseP r) (fun i => rows.length - (intOf i).toNat)
    case atStart => exact ⟨0, Nat.zero_le _, rfl, by simp⟩
    case round =>
      obtain ⟨k, hk, rfl, hP⟩ := hrel
      have HP := Lib.hid hP
      clear hP
      by_cases hlt : k < rows.length
      · obtain ⟨r, hrk⟩ := get_of_lt hlt
        obtain ⟨b, off, sr, cr, rfl, hbw, hz, hsr⟩ := HS.out.1.row (Below.refl _ _) hrk
        have hrl := HS.out.2 r (List.mem_of_getElem? hrk)
        have HR := Lib.hid (And.intro hrk hsr)
        clear hrk hsr
        by_cases h3 : r.length ≤ 3
        · go_wp2
          go_loop [21] (fun i => ∃ m : Nat, m ≤ r.length ∧ i = .int .i64 m ∧ ∀ l ∈ r.take m, lit25 l) (fun i => r.length - (intOf i).toNat)
          case atStart => exact ⟨0, Nat.zero_le _, rfl, by simp⟩
          case round =>
            obtain ⟨m, hm, rfl, hQ⟩ := hrel
            have HQ := Lib.hid hQ
            clear hQ
            by_cases hlt2 : m < r.length
            · obtain ⟨x, hx⟩ := get_of_lt hlt2
              obtain ⟨b2, off2, rfl, hbw2, hz2⟩ := HR.out.2.int (Below.refl _ _) hx
              have HX := Lib.hid hx
              clear hx
              go_wp2
              all_goals first
                | (go_round
                   case rel => exact ⟨m + 1, by omega, by go_num, all_snoc HQ.out HX.out (by unfold lit25; simp at *; omega)⟩
                   case measure => simp [intOf]; omega)
                | (go_ret
                   exact ⟨ret_bool (clausesB_false fun h => absurd ((h.2 r (List.mem_of_getElem? HR.out.1)).2 x (List.mem_of_getElem? HX.out)) (by unfold lit25; simp at *; omega)).symm, rfl⟩)
            · obtain rfl : m = r.length := by omega
              have h1 := HQ.out
              rw [List.take_length] at h1
              have HQ2 := Lib.hid h1
              clear h1
              go_wp2
              go_round
              case rel => exact ⟨k + 1, by omega, by go_num, all_snoc HP.out HR.out.1 ⟨h3, HQ2.out⟩⟩
              case measure => simp [intOf]; omega
        · go_wp2
          go_ret
          exact ⟨ret_bool (clausesB_false fun h => h3 (h.2 r (List.mem_of_getElem? HR.out.1)).1).symm, rfl⟩
      · obtain rfl : k = rows.length := by omega
        have h1 := HP.out
        rw [List.take_length] at h1
        have HP2 := Lib.hid h1
        clear h1
        go_wp2
        go_ret
        exact ⟨ret_bool (clausesB_true ⟨H80.out, HP2.out⟩).symm, rfl⟩
  · have hb : clausesB rows = false := clausesB_false fun h => h80 h.1
    rw [hb]
    clear hb
    go_enter Try.func81, Try.ntmps81
    go_wp2
    go_ret
    exact ⟨rfl, rfl⟩

set_option maxHeartbeats 400000 in
theorem ClausesValid_s (s : Option Addr) (cap : Nat) (rows : List (List Int)) (w : World) (hs : SlS w s rows) (hn : rows.length ≤ 1048576) (hr : ∀ r ∈ rows, r.length ≤ 1048576) :
    Calls Try.prog 50 #[.slice s rows.length cap] w fun e w' => e = .returned (.bool (clausesB rows)) ∧ w = w' := by
  have HS : Hid (SlS w s rows ∧ ∀ r ∈ rows, r.length ≤ 1048576) := ⟨hs, hr⟩
  clear hs hr
  by_cases h80 : rows.length ≤ 80
  · have H80 := Lib.hid h80
    go_enter Try.func50, Try.ntmps50
    go_wp2
    go_loop [3] (fun i => ∃ k : Nat, k ≤ rows.length ∧ i = .int .i64 k ∧ ∀ r ∈ rows.take k, clauseP r) (fun i => rows.length - (intOf i).toNat)
    case atStart => exact ⟨0, Nat.zero_le _, rfl, by simp⟩
    case round =>
      obtain ⟨k, hk, rfl, hP⟩ := hrel
      have HP := Lib.hid hP
      clear hP
      by_cases hlt : k < rows.length
      · obtain ⟨r, hrk⟩ := get_of_lt hlt
        obtain ⟨b, off, sr, cr, rfl, hbw, hz, hsr⟩ := HS.out.1.row (Below.refl _ _) hrk
        have hrl := HS.out.2 r (List.mem_of_getElem? hrk)
        have HR := Lib.hid (And.intro hrk hsr)
        clear hrk hsr
        by_cases h3 : r.length ≤ 3
        · go_wp2
          go_loop [4] (fun i => ∃ m : Nat, m ≤ r.length ∧ i = .int .i64 m ∧ ∀ l ∈ r.take m, lit25 l) (fun i => r.length - (intOf i).toNat)
          case atStart => exact ⟨0, Nat.zero_le _, rfl, by simp⟩
          case round =>
            obtain ⟨m, hm, rfl, hQ⟩ := hrel
            have HQ := Lib.hid hQ
            clear hQ
            by_cases hlt2 : m < r.length
            · obtain ⟨x, hx⟩ := get_of_lt hlt2
              obtain ⟨b2, off2, rfl, hbw2, hz2⟩ := HR.out.2.int (Below.refl _ _) hx
              have HX := Lib.hid hx
              clear hx
              go_wp2_with (go_at_call 57; refine (l1In_any _ _ _ _).mono ?_; rintro e w' ⟨rfl, rfl⟩)
              all_goals first
                | (go_round
                   case rel => exact ⟨m + 1, by omega, by go_num, all_snoc HQ.out HX.out (by unfold lit25; simp at *; omega)⟩
                   case measure => simp [intOf]; omega)
                | (go_ret
                   exact ⟨ret_bool (clausesB_false fun h => absurd ((h.2 r (List.mem_of_getElem? HR.out.1)).2 x (List.mem_of_getElem? HX.out)) (by unfold lit25; simp at *; omega)).symm, rfl⟩)
            · obtain rfl : m = r.length := by omega
              have h1 := HQ.out
              rw [List.take_length] at h1
              have HQ2 := Lib.hid h1
              clear h1
              go_wp2
              go_round
              case rel => exact ⟨k + 1, by omega, by go_num, all_snoc HP.out HR.out.1 ⟨h3, HQ2.out⟩⟩
              case measure => simp [intOf]; omega
        · go_wp2
          go_ret
          exact ⟨ret_bool (clausesB_false fun h => h3 (h.2 r (List.mem_of_getElem? HR.out.1)).1).symm, rfl⟩
      · obtain rfl : k = rows.length := by omega
        have h1 := HP.out
        rw [List.take_length] at h1
        have HP2 := Lib.hid h1
        clear h1
        go_wp2
        go_ret
        exact ⟨ret_bool (clausesB_true ⟨H80.out, HP2.out⟩).symm, rfl⟩
  · have hb : clausesB rows = false := clausesB_false fun h => h80 h.1
    rw [hb]
    clear hb
    go_enter Try.func50, Try.ntmps50
    go_wp2
    go_ret
    exact ⟨rfl, rfl⟩

end Go.Proofs.Ytddmgphlhfilnaa
