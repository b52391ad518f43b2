import Derived.Test.YtddmgphlhfilnaaBF
import Derived.Test.YtddmgphlhfilnaaV4
namespace Go.Proofs.Ytddmgphlhfilnaa
set_option linter.unusedVariables false
set_option linter.unusedSimpArgs false
open Go.RowKit

/-! The nodes of a diagram, made by the reference. -/

theorem fdK_hit {x : Nd} : ∀ {Ks : List Nd} {i : Nat}, fdK (Ks.take i) x = none → Ks[i]? = some x → fdK Ks x = some i
  | [], i, _, h => by simp at h
  | y :: ys, 0, _, h => by
    simp at h
    unfold fdK; rw [if_pos h.symm]
  | y :: ys, i + 1, h0, h => by
    rw [List.take_succ_cons] at h0
    unfold fdK at h0 ⊢
    by_cases e : x = y
    · rw [if_pos e] at h0; cases h0
    · rw [if_neg e, Option.map_eq_none_iff] at h0
      rw [if_neg e, fdK_hit h0 (by simpa using h)]; rfl
theorem fdK_miss {x y : Nd} : ∀ {Ks : List Nd} {i : Nat}, fdK (Ks.take i) x = none → Ks[i]? = some y → x ≠ y → fdK (Ks.take (i + 1)) x = none
  | [], i, _, h, _ => by simp at h
  | z :: ys, 0, _, h, hne => by
    simp at h; subst h
    simp [fdK, hne]
  | z :: ys, i + 1, h0, h, hne => by
    rw [List.take_succ_cons] at h0 ⊢
    unfold fdK at h0 ⊢
    by_cases e : x = z
    · rw [if_pos e] at h0; cases h0
    · rw [if_neg e, Option.map_eq_none_iff] at h0
      rw [if_neg e, Option.map_eq_none_iff]
      exact fdK_miss h0 (by simpa using h) hne
def MkPost (w : World) (r : List Nd × Int) (e : Ending) (w' : World) : Prop :=
  ∃ s c, e = .returned (.tuple #[.slice s (r.1.length + 2) c, .int .i64 r.2]) ∧ Sl w' s (ncells (zz r.1)) ∧ Below w.heap.size w w'
theorem ncells_one (gs : List Nd) : ∀ u ∈ ncells gs, u.oneCell' = true := by
  intro u hu
  unfold ncells at hu
  rw [List.mem_flatMap] at hu
  obtain ⟨g, _, hg⟩ := hu
  simp [Nd.cells] at hg
  rcases hg with rfl | rfl | rfl <;> rfl

set_option maxHeartbeats 1600000 in
theorem l14Make_any (s : Option Addr) (cap : Nat) (Ks : List Nd) (v lo hi : Int) (w : World) (h : Sl w s (ncells (zz Ks))) (hl : Ks.length ≤ 1000) :
    Calls Try.prog 92 #[.slice s (Ks.length + 2) cap, .int .i64 v, .int .i64 lo, .int .i64 hi] w (MkPost w (mkK Ks v lo hi)) := by
  have H := Lib.hid h
  clear h
  by_cases hlh : lo = hi
  · subst hlh
    go_enter Try.func92, Try.ntmps92
    go_wp2
    exact bodyPost_ret (v := .tuple #[.slice s (Ks.length + 2) cap, .int .i64 lo]) (by simp [results, Try.results92, go_sem]) rfl ⟨_, _, by rw [mkK_eq rfl], by rw [mkK_eq rfl]; exact H.out, Below.refl _ _⟩
  · have hne : (lo == hi) = false := beq_eq_false_iff_ne.2 hlh
    go_enter Try.func92, Try.ntmps92
    go_wp2
    go_loop [10] (fun i => ∃ k : Nat, k ≤ Ks.length ∧ i = .int .i64 ((k : Int) + 2) ∧ fdK (Ks.take k) ⟨v, lo, hi⟩ = none) (fun i => Ks.length + 2 - (intOf i).toNat)
    case atStart => exact ⟨0, Nat.zero_le _, rfl, rfl⟩
    case round =>
      obtain ⟨k, hk, rfl, hf⟩ := hrel
      have HF := Lib.hid hf
      clear hf
      by_cases hlt : k < Ks.length
      · obtain ⟨g, hg⟩ := get_of_lt hlt
        obtain ⟨b, off, rfl, hbw, z1, z2, z3⟩ := H.out.node (Below.refl _ _) (k := k + 2) (g := g) (by rw [zz_get]; exact hg)
        have HG := Lib.hid hg
        clear hg
        by_cases e : (⟨v, lo, hi⟩ : Nd) = g
        · subst e
          have e := fdK_hit HF.out HG.out
          have HE := Lib.hid e
          clear e
          go_wp2
          exact bodyPost_ret (v := .tuple #[.slice (some ⟨b, off, none⟩) (Ks.length + 2) cap, .int .i64 ((k : Int) + 2)]) (by simp [results, Try.results92, go_sem]) rfl ⟨_, _, by rw [mkK_old hlh HE.out]; rfl, by rw [mkK_old hlh HE.out]; exact H.out, Below.refl _ _⟩
        · have HE := Lib.hid e
          clear e
          go_wp2
          all_goals first
            | (exfalso; apply HE.out; refine Nd.ext' ?_ ?_ ?_ <;> simp at * <;> omega)
            | skip
          all_goals
            go_round
            case rel => exact ⟨k + 1, by omega, by go_num, fdK_miss HF.out HG.out HE.out⟩
            case measure => simp [intOf]; omega
      · obtain rfl : k = Ks.length := by omega
        have hf := HF.out
        rw [List.take_length] at hf
        have HF2 := Lib.hid hf
        clear hf
        go_upto_region 8 with fail
        have hb1 := (Below.refl w.heap.size w).alloc (Nat.le_refl _) (.cells #[] 29)
        have ho := own_of_blk (base := w.heap.size) (size := 3) (n := 0) (cur := #[]) (blk_new w (.cells #[] 29)) (Nat.le_refl _) (by simp) (by unfold maxLen; omega)
        have hsz : w.heap.size ≤ (w.alloc (.cells #[] 29)).heap.size := by simp
        have HA := Lib.hid (And.intro hb1 (And.intro ho hsz))
        clear hb1 ho hsz
        go_wp2_with (first
          | (at_builtin; refine wpl_app rfl _ _ rfl elem_node HA.out.2.1 rfl rfl (by rw [ncells_length]; simp [zz_length]; omega) (H.out.mono HA.out.1) (ncells_one _) (Ks.length + 2) (by omega) (ncells (zz Ks)) (by simp) (by unfold maxLen; omega) (by omega) HA.out.2.2 ?_; intro s6 c6 w6 h6 hb6 _ _; have HB := Lib.hid (And.intro h6 (HA.out.1.trans hb6)); clear h6 hb6)
          | (at_builtin; refine wpl_app rfl _ _ rfl elem_node (own_below HB.out.1 ((Below.refl _ _).alloc (Nat.le_refl _) _)) rfl rfl rfl (Sl.new _ _ _) (by simp [Value.oneCell']) (Ks.length + 2 + 1) rfl (ncells (zz (Ks ++ [⟨v, lo, hi⟩]))) (by rw [zz_app, ← ncells_append]; rfl) (by unfold maxLen; omega) (by omega) (by have := HB.out.2.size; simp; omega) ?_; intro s7 c7 w7 h7 hb7 _ _; have HC := Lib.hid (And.intro h7 ((HB.out.2.alloc HB.out.2.size _).trans hb7)); clear h7 hb7))
        exact bodyPost_ret (v := .tuple #[.slice s7 (Ks.length + 2 + 1) c7, .int .i64 ((Ks.length : Int) + 2)]) (by simp [results, Try.results92, go_sem]) rfl ⟨s7, c7, by rw [mkK_new hlh HF2.out]; simp, by rw [mkK_new hlh HF2.out]; exact own_sl HC.out.1, HC.out.2⟩

end Go.Proofs.Ytddmgphlhfilnaa
