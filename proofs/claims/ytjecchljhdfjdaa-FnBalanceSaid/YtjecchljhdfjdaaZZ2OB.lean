import Derived.Test.YtjecchljhdfjdaaZZ2OA
import Derived.Test.YtjecchljhdfjdaaZZ2Q1
import Derived.Test.YtjecchljhdfjdaaZZ2S1
import Derived.Test.YtjecchljhdfjdaaZZ2L4
import Derived.Test.YtjecchljhdfjdaaZZ2Y0
namespace Go.Proofs.Ytjecchljhdfjdaa
set_option linter.unusedVariables false
set_option linter.unusedSimpArgs false
open Go.RowKit

/-! Part of the proof of one law. -/

theorem l3MapM_any (s : Option Addr) (cap n : Nat) (m : List Int) (l : Int) (w : World) (hn : m.length = n) (h : Sl w s (ints m)) (h0 : 0 ≤ l) (h1 : l / 2 < n) (hl : l ≤ 1000) (hm : ∀ x ∈ m, 0 ≤ x ∧ x ≤ 300) :
    Calls Try.prog 46 #[.slice s n cap, .int .i64 l] w fun e w' => e = .returned (.int .i64 (mapB m l)) ∧ w = w' := by
  obtain ⟨q, hq⟩ : ∃ q : Nat, l / 2 = q := ⟨(l / 2).toNat, by omega⟩
  have q2 : q < n := by omega
  obtain ⟨x, hxq⟩ := get_of_lt (l := m) (k := q) (by omega)
  obtain ⟨b, off, rfl, hbw, hz⟩ := h.int (Below.refl _ _) hxq
  have hx : bits .xor .i64 x (l % 2) = mapB m l := by
    rw [mapB_eq hq hxq]
    have := hm x (List.mem_of_getElem? hxq)
    exact bits_xrb x (l % 2) this.1 this.2 (by omega)
  have H := Lib.hid (And.intro h (And.intro hxq hm))
  have HX := Lib.hid hx
  clear h hx h1 hm hxq hn
  go_enter Try.func46, Try.ntmps46
  go_wp2
  go_ret
  exact ⟨ret_int HX.out, rfl⟩

theorem gcells_one (gs : List Gt) : ∀ u ∈ gcells gs, u.oneCell' = true := by
  intro u hu
  unfold gcells at hu
  obtain ⟨g, _, hg⟩ := List.mem_flatMap.1 hu
  simp [Gt.cells] at hg
  rcases hg with rfl | rfl <;> rfl

/-- What l3And leaves. -/
def AnPost (inp : Int) (vn vo : Value) (sg : Option Addr) (cg : Nat) (gs : List Gt) (r : List Gt × Int) (w : World) (e : Ending) (w' : World) : Prop :=
  ∃ vg, e = .returned (.tuple #[.agg #[.int .i64 inp, vn, vg, vo], .int .i64 r.2]) ∧ ((vg = .slice sg gs.length cg ∧ r.1 = gs) ∨ w'.ownsRow w.heap.size 24 2 vg r.1.length (gcells r.1)) ∧ Below w.heap.size w w'

set_option maxRecDepth 100000 in
set_option maxHeartbeats 12800000 in
theorem l3And_lt (inp : Int) (sn sg so : Option Addr) (ln cn cg lo co : Nat) (gs : List Gt) (a b : Int) (w : World) (h : Sl w sg (gcells gs)) (hg : gs.length ≤ 130) (hi : 0 ≤ inp ∧ inp ≤ 10) (hn : ln ≤ 10) (ha : 0 ≤ a ∧ a ≤ 300) (hb : 0 ≤ b ∧ b ≤ 300) (hab : b < a) :
    Calls Try.prog 85 #[.agg #[.int .i64 inp, .slice sn ln cn, .slice sg gs.length cg, .slice so lo co], .int .i64 a, .int .i64 b] w
      (AnPost inp (.slice sn ln cn) (.slice so lo co) sg cg gs (andL (1 + inp + ln) gs a b) w) := by
  obtain ⟨i0, i1⟩ := hi
  obtain ⟨a0, a1⟩ := ha
  obtain ⟨b0, b1⟩ := hb
  have HS := Lib.hid h
  clear h
  obtain ⟨W0, hW0⟩ : ∃ W0, W0 = (w.alloc (.cells #[.int .i64 inp, .slice sn ln cn, .slice sg gs.length cg, .slice so lo co] 28)).alloc (.cells #[.int .i64 0, .slice none 0 0, .slice none 0 0, .slice none 0 0] 28) := ⟨_, rfl⟩
  obtain ⟨A, hA⟩ : ∃ A, A = w.heap.size := ⟨_, rfl⟩
  have z1 : W0.heap.size = A + 2 := by rw [hW0, hA]; simp
  have z2 : W0.heap[A]? = some (.cells #[.int .i64 inp, .slice sn ln cn, .slice sg gs.length cg, .slice so lo co] 28 (0, 0)) := by rw [hW0, hA]; exact blk_old (blk_new w _)
  have z3 : W0.heap[A + 1]? = some (.cells #[.int .i64 0, .slice none 0 0, .slice none 0 0, .slice none 0 0] 28 (0, 0)) := by rw [hW0, hA]; exact blk_at (by simp)
  have z4 : Below A w W0 := by rw [hW0, hA]; exact ((Below.refl _ _).alloc (Nat.le_refl _) _).alloc (by simp) _
  have HW := Lib.hid (And.intro hW0 (And.intro hA (And.intro z1 (And.intro z2 (And.intro z3 z4)))))
  clear hW0 hA z1 z2 z3 z4
  have HB : Hid (∀ W, Below W0.heap.size W0 W → (∀ o, W.cell? ⟨A, o, none⟩ = #[Value.int .i64 inp, .slice sn ln cn, .slice sg gs.length cg, .slice so lo co][o]?) ∧ W.heap[A]? = some (.cells #[.int .i64 inp, .slice sn ln cn, .slice sg gs.length cg, .slice so lo co] 28 (0, 0)) ∧ W.heap[A + 1]? = some (.cells #[.int .i64 0, .slice none 0 0, .slice none 0 0, .slice none 0 0] 28 (0, 0)) ∧ Sl W sg (gcells gs) ∧ Below A w W) := fun W hW => by
    have e := HW.out.2.2.1
    have q1 := blk_below hW (by omega) HW.out.2.2.2.1
    have hwa : Below A w W := HW.out.2.2.2.2.2.trans (hW.mono (by omega))
    exact ⟨(blk_all q1).1, q1, blk_below hW (by omega) HW.out.2.2.2.2.1, HS.out.mono (by rw [← HW.out.2.1]; exact hwa), hwa⟩
  obtain ⟨R, hR⟩ : ∃ R, R = andL (1 + inp + ln) gs a b := ⟨_, rfl⟩
  rw [← hR]
  have hRK : R = andK (1 + inp + ln) gs b a := by rw [hR]; unfold andL; rw [if_pos hab]
  have HR := Lib.hid hRK
  clear hR hRK
  go_enter Try.func85, Try.ntmps85
  go_upto_region 1 with fail
  rw [← HW.out.1, ← HW.out.2.1]
  go_upto_region 5 with fail
  have hle : b ≤ a := by omega
  clear hab
  have cb := (HB.out _ (Below.refl _ _)).1
  by_cases hx0 : b = 0
  · have hBV := HB.out _ (Below.refl _ _)
    obtain ⟨rc, rf⟩ := blk_all hBV.2.2.1
    go_wp2_with fail
    have hZ : ((((W0.setCell ⟨A + 1, 0, none⟩ (.int .i64 inp)).setCell ⟨A + 1, 1, none⟩ (.slice sn ln cn)).setCell ⟨A + 1, 2, none⟩ (.slice sg gs.length cg)).setCell ⟨A + 1, 3, none⟩ (.slice so lo co)).heap[A + 1]? = some (.cells #[.int .i64 inp, .slice sn ln cn, .slice sg gs.length cg, .slice so lo co] 28 (0, 0)) := by
      simpa using blk_set (o := 3) (v := .slice so lo co) (blk_set (o := 2) (v := .slice sg gs.length cg) (blk_set (o := 1) (v := .slice sn ln cn) (blk_set (o := 0) (v := .int .i64 inp) hBV.2.2.1)))
    have hBZ := ((((hBV.2.2.2.2).setCell (p := ⟨A + 1, 0, none⟩) (by simp) (.int .i64 inp)).setCell (p := ⟨A + 1, 1, none⟩) (by simp) (.slice sn ln cn)).setCell (p := ⟨A + 1, 2, none⟩) (by simp) (.slice sg gs.length cg)).setCell (p := ⟨A + 1, 3, none⟩) (by simp) (.slice so lo co)
    clear rc rf
    revert hZ hBZ
    generalize ((((W0.setCell ⟨A + 1, 0, none⟩ (.int .i64 inp)).setCell ⟨A + 1, 1, none⟩ (.slice sn ln cn)).setCell ⟨A + 1, 2, none⟩ (.slice sg gs.length cg)).setCell ⟨A + 1, 3, none⟩ (.slice so lo co)) = WZ
    intro hZ hBZ
    have cr := (blk_all hZ).1
    have e0 := HR.out
    rw [andK_zero (.inl hx0)] at e0
    exact bodyPost_ret (v := .tuple #[.agg #[.int .i64 inp, .slice sn ln cn, .slice sg gs.length cg, .slice so lo co], .int .i64 0]) (by simp [results, Try.results85, go_sem, cr]) rfl ⟨_, by rw [e0], .inl ⟨rfl, by rw [e0]⟩, by rw [← HW.out.2.1]; exact hBZ⟩
  · have HX0 := Lib.hid hx0
    have c1 : (b == 0) = false := by simpa using hx0
    clear hx0
    by_cases hx2 : b = a - 1
    · have HX2 := Lib.hid hx2
      have c2 : (b == a - 1) = true := by simpa using hx2
      clear hx2
      by_cases hx3 : b % 2 = 0
      · have HX3 := Lib.hid hx3
        have c3 : (b % 2 == 0) = true := by simpa using hx3
        clear hx3
        have hBV := HB.out _ (Below.refl _ _)
        obtain ⟨rc, rf⟩ := blk_all hBV.2.2.1
        go_wp2_with fail
        have hZ : ((((W0.setCell ⟨A + 1, 0, none⟩ (.int .i64 inp)).setCell ⟨A + 1, 1, none⟩ (.slice sn ln cn)).setCell ⟨A + 1, 2, none⟩ (.slice sg gs.length cg)).setCell ⟨A + 1, 3, none⟩ (.slice so lo co)).heap[A + 1]? = some (.cells #[.int .i64 inp, .slice sn ln cn, .slice sg gs.length cg, .slice so lo co] 28 (0, 0)) := by
          simpa using blk_set (o := 3) (v := .slice so lo co) (blk_set (o := 2) (v := .slice sg gs.length cg) (blk_set (o := 1) (v := .slice sn ln cn) (blk_set (o := 0) (v := .int .i64 inp) hBV.2.2.1)))
        have hBZ := ((((hBV.2.2.2.2).setCell (p := ⟨A + 1, 0, none⟩) (by simp) (.int .i64 inp)).setCell (p := ⟨A + 1, 1, none⟩) (by simp) (.slice sn ln cn)).setCell (p := ⟨A + 1, 2, none⟩) (by simp) (.slice sg gs.length cg)).setCell (p := ⟨A + 1, 3, none⟩) (by simp) (.slice so lo co)
        clear rc rf
        revert hZ hBZ
        generalize ((((W0.setCell ⟨A + 1, 0, none⟩ (.int .i64 inp)).setCell ⟨A + 1, 1, none⟩ (.slice sn ln cn)).setCell ⟨A + 1, 2, none⟩ (.slice sg gs.length cg)).setCell ⟨A + 1, 3, none⟩ (.slice so lo co)) = WZ
        intro hZ hBZ
        have cr := (blk_all hZ).1
        have e0 := HR.out
        rw [andK_zero (.inr ⟨HX2.out, HX3.out⟩)] at e0
        exact bodyPost_ret (v := .tuple #[.agg #[.int .i64 inp, .slice sn ln cn, .slice sg gs.length cg, .slice so lo co], .int .i64 0]) (by simp [results, Try.results85, go_sem, cr]) rfl ⟨_, by rw [e0], .inl ⟨rfl, by rw [e0]⟩, by rw [← HW.out.2.1]; exact hBZ⟩
      · have HN0 : Hid (¬ (b = 0 ∨ (b = a - 1 ∧ b % 2 = 0))) := fun h => h.elim HX0.out (fun h => hx3 h.2)
        have c3 : (b % 2 == 0) = false := by simpa using hx3
        clear hx3 HX2
        by_cases hx4 : b = 1
        · have HX4 := Lib.hid hx4
          have c4 : (b == 1) = true := by simpa using hx4
          clear hx4
          have hBV := HB.out _ (Below.refl _ _)
          obtain ⟨rc, rf⟩ := blk_all hBV.2.2.1
          go_wp2_with fail
          have hZ : ((((W0.setCell ⟨A + 1, 0, none⟩ (.int .i64 inp)).setCell ⟨A + 1, 1, none⟩ (.slice sn ln cn)).setCell ⟨A + 1, 2, none⟩ (.slice sg gs.length cg)).setCell ⟨A + 1, 3, none⟩ (.slice so lo co)).heap[A + 1]? = some (.cells #[.int .i64 inp, .slice sn ln cn, .slice sg gs.length cg, .slice so lo co] 28 (0, 0)) := by
            simpa using blk_set (o := 3) (v := .slice so lo co) (blk_set (o := 2) (v := .slice sg gs.length cg) (blk_set (o := 1) (v := .slice sn ln cn) (blk_set (o := 0) (v := .int .i64 inp) hBV.2.2.1)))
          have hBZ := ((((hBV.2.2.2.2).setCell (p := ⟨A + 1, 0, none⟩) (by simp) (.int .i64 inp)).setCell (p := ⟨A + 1, 1, none⟩) (by simp) (.slice sn ln cn)).setCell (p := ⟨A + 1, 2, none⟩) (by simp) (.slice sg gs.length cg)).setCell (p := ⟨A + 1, 3, none⟩) (by simp) (.slice so lo co)
          clear rc rf
          revert hZ hBZ
          generalize ((((W0.setCell ⟨A + 1, 0, none⟩ (.int .i64 inp)).setCell ⟨A + 1, 1, none⟩ (.slice sn ln cn)).setCell ⟨A + 1, 2, none⟩ (.slice sg gs.length cg)).setCell ⟨A + 1, 3, none⟩ (.slice so lo co)) = WZ
          intro hZ hBZ
          have cr := (blk_all hZ).1
          have e0 := HR.out
          rw [andK_same HN0.out (.inl HX4.out)] at e0
          exact bodyPost_ret (v := .tuple #[.agg #[.int .i64 inp, .slice sn ln cn, .slice sg gs.length cg, .slice so lo co], .int .i64 a]) (by simp [results, Try.results85, go_sem, cr]) rfl ⟨_, by rw [e0], .inl ⟨rfl, by rw [e0]⟩, by rw [← HW.out.2.1]; exact hBZ⟩
        · by_cases hx5 : b = a
          · have HX4 := Lib.hid hx5
            have c4 : (b == 1) = false := by simpa using hx4
            have c5 : (b == a) = true := by simpa using hx5
            clear hx4 hx5
            have hBV := HB.out _ (Below.refl _ _)
            obtain ⟨rc, rf⟩ := blk_all hBV.2.2.1
            go_wp2_with fail
            have hZ : ((((W0.setCell ⟨A + 1, 0, none⟩ (.int .i64 inp)).setCell ⟨A + 1, 1, none⟩ (.slice sn ln cn)).setCell ⟨A + 1, 2, none⟩ (.slice sg gs.length cg)).setCell ⟨A + 1, 3, none⟩ (.slice so lo co)).heap[A + 1]? = some (.cells #[.int .i64 inp, .slice sn ln cn, .slice sg gs.length cg, .slice so lo co] 28 (0, 0)) := by
              simpa using blk_set (o := 3) (v := .slice so lo co) (blk_set (o := 2) (v := .slice sg gs.length cg) (blk_set (o := 1) (v := .slice sn ln cn) (blk_set (o := 0) (v := .int .i64 inp) hBV.2.2.1)))
            have hBZ := ((((hBV.2.2.2.2).setCell (p := ⟨A + 1, 0, none⟩) (by simp) (.int .i64 inp)).setCell (p := ⟨A + 1, 1, none⟩) (by simp) (.slice sn ln cn)).setCell (p := ⟨A + 1, 2, none⟩) (by simp) (.slice sg gs.length cg)).setCell (p := ⟨A + 1, 3, none⟩) (by simp) (.slice so lo co)
            clear rc rf
            revert hZ hBZ
            generalize ((((W0.setCell ⟨A + 1, 0, none⟩ (.int .i64 inp)).setCell ⟨A + 1, 1, none⟩ (.slice sn ln cn)).setCell ⟨A + 1, 2, none⟩ (.slice sg gs.length cg)).setCell ⟨A + 1, 3, none⟩ (.slice so lo co)) = WZ
            intro hZ hBZ
            have cr := (blk_all hZ).1
            have e0 := HR.out
            rw [andK_same HN0.out (.inr HX4.out)] at e0
            exact bodyPost_ret (v := .tuple #[.agg #[.int .i64 inp, .slice sn ln cn, .slice sg gs.length cg, .slice so lo co], .int .i64 a]) (by simp [results, Try.results85, go_sem, cr]) rfl ⟨_, by rw [e0], .inl ⟨rfl, by rw [e0]⟩, by rw [← HW.out.2.1]; exact hBZ⟩
          · have HN1 : Hid (¬ (b = 1 ∨ b = a)) := fun h => h.elim hx4 hx5
            have c4 : (b == 1) = false := by simpa using hx4
            have c5 : (b == a) = false := by simpa using hx5
            clear hx4 hx5
            obtain ⟨F, hF⟩ : ∃ F : Nat, 1 + inp + (ln : Int) = F := ⟨(1 + inp + (ln : Int)).toNat, by omega⟩
            have hF2 : F ≤ 21 := by omega
            have HFF := Lib.hid hF
            go_upto_region 11 with (go_at_call 44; ((with_reducible refine (l1First_any _ _ _ _ _ _ _ (by omega) (by omega)).mono ?_); rintro e w2 ⟨rfl, hq⟩; rw [HFF.out]; have H2 := Lib.hid hq; clear hq cb; have cb := (HB.out _ H2.out).1))
            clear hF
            go_loop [10] (fun s10 => ∃ i : Nat, i ≤ gs.length ∧ s10 = .int .i64 i ∧ ∀ j, j < i → gs[j]? ≠ some ⟨b, a⟩) (fun s10 => gs.length - (intOf s10).toNat)
            case atStart => exact ⟨0, Nat.zero_le _, rfl, fun j hj => by omega⟩
            case round =>
              obtain ⟨i, hi, rfl, hn⟩ := hrel
              have HNN := Lib.hid hn
              clear hn
              by_cases hlt : i < gs.length
              · obtain ⟨g, hg⟩ := get_of_lt hlt
                obtain ⟨bb, off, rfl, hbw, y1, y2⟩ := (HB.out _ (Below.refl _ _)).2.2.2.1.gate H2.out hg
                have HG := Lib.hid hg
                clear hg
                by_cases hga : g.a = b
                · have d1 : (g.a == b) = true := by simpa using hga
                  have HGA := Lib.hid hga
                  clear hga
                  by_cases hgb : g.b = a
                  · have d2 : (g.b == a) = true := by simpa using hgb
                    have HGB := Lib.hid hgb
                    clear hgb
                    have hfnd : fndG gs ⟨b, a⟩ 0 = some (0 + i) := fndG_some (by rw [HG.out]; congr 1; cases g; simp only [Gt.mk.injEq]; exact ⟨HGA.out, HGB.out⟩) HNN.out
                    rw [Nat.zero_add] at hfnd
                    have HFN := Lib.hid hfnd
                    clear hfnd
                    have hBV := HB.out _ H2.out
                    obtain ⟨rc, rf⟩ := blk_all hBV.2.2.1
                    go_wp2_with fail
                    have hZ : ((((w2.setCell ⟨A + 1, 0, none⟩ (.int .i64 inp)).setCell ⟨A + 1, 1, none⟩ (.slice sn ln cn)).setCell ⟨A + 1, 2, none⟩ (.slice (some ⟨bb, off, none⟩) gs.length cg)).setCell ⟨A + 1, 3, none⟩ (.slice so lo co)).heap[A + 1]? = some (.cells #[.int .i64 inp, .slice sn ln cn, .slice (some ⟨bb, off, none⟩) gs.length cg, .slice so lo co] 28 (0, 0)) := by
                      simpa using blk_set (o := 3) (v := .slice so lo co) (blk_set (o := 2) (v := .slice (some ⟨bb, off, none⟩) gs.length cg) (blk_set (o := 1) (v := .slice sn ln cn) (blk_set (o := 0) (v := .int .i64 inp) hBV.2.2.1)))
                    have hBZ := ((((hBV.2.2.2.2).setCell (p := ⟨A + 1, 0, none⟩) (by simp) (.int .i64 inp)).setCell (p := ⟨A + 1, 1, none⟩) (by simp) (.slice sn ln cn)).setCell (p := ⟨A + 1, 2, none⟩) (by simp) (.slice (some ⟨bb, off, none⟩) gs.length cg)).setCell (p := ⟨A + 1, 3, none⟩) (by simp) (.slice so lo co)
                    clear rc rf
                    revert hZ hBZ
                    generalize ((((w2.setCell ⟨A + 1, 0, none⟩ (.int .i64 inp)).setCell ⟨A + 1, 1, none⟩ (.slice sn ln cn)).setCell ⟨A + 1, 2, none⟩ (.slice (some ⟨bb, off, none⟩) gs.length cg)).setCell ⟨A + 1, 3, none⟩ (.slice so lo co)) = WZ
                    intro hZ hBZ
                    have cr := (blk_all hZ).1
                    have e0 := HR.out
                    rw [andK_old HN0.out HN1.out HFN.out, HFF.out] at e0
                    exact bodyPost_ret (v := .tuple #[.agg #[.int .i64 inp, .slice sn ln cn, .slice (some ⟨bb, off, none⟩) gs.length cg, .slice so lo co], .int .i64 (2 * ((F : Int) + (i : Int)))]) (by simp [results, Try.results85, go_sem, cr]) rfl ⟨_, by rw [e0], .inl ⟨rfl, by rw [e0]⟩, by rw [← HW.out.2.1]; exact hBZ⟩
                  · have d2 : (g.b == a) = false := by simpa using hgb
                    go_wp2_with fail
                    go_round
                    case rel => exact ⟨i + 1, by omega, by go_num, fun j hj e => by
                      by_cases e2 : j = i
                      · subst e2; rw [HG.out] at e; cases e; exact hgb rfl
                      · exact HNN.out j (by omega) e⟩
                    case measure => simp [intOf]; omega
                · have d1 : (g.a == b) = false := by simpa using hga
                  go_wp2_with fail
                  go_round
                  case rel => exact ⟨i + 1, by omega, by go_num, fun j hj e => by
                    by_cases e2 : j = i
                    · subst e2; rw [HG.out] at e; cases e; exact hga rfl
                    · exact HNN.out j (by omega) e⟩
                  case measure => simp [intOf]; omega
              · obtain rfl : i = gs.length := by omega
                have hfnd : fndG gs ⟨b, a⟩ 0 = none := fndG_none HNN.out
                have HFN := Lib.hid hfnd
                clear hfnd
                have g1 := (HB.out _ H2.out)
                have hal := H2.out.alloc H2.out.size (.cells #[] 24)
                have hown0 : World.ownsRow (w2.alloc (.cells #[] 24)) W0.heap.size 24 2 (.slice (some ⟨w2.heap.size, 0, none⟩) 0 0) 0 [] := own_of_blk (size := 2) (n := 0) (cur := #[]) (blk_new w2 _) H2.out.size (by simp) (by unfold maxLen; omega)
                have HO0 := Lib.hid (And.intro hown0 (And.intro (HB.out _ hal).2.2.2.1 hal))
                clear hown0 hal g1
                have hsA : A < w2.heap.size := by have h1 := H2.out.size; have h2 := HW.out.2.2.1; omega
                go_upto_region 16 with (first
                  | (at_builtin; refine wpl_app rfl _ _ rfl elem_gate HO0.out.1 rfl rfl (by rw [gcells_length]; omega) HO0.out.2.1 (gcells_one _) gs.length (by omega) (gcells gs) (by simp) (by unfold maxLen; omega) (by omega) HO0.out.2.2.size ?_; intro s6 c6 w6 h6 hb6 hg6 hob6; have H6 := Lib.hid (And.intro h6 (HO0.out.2.2.trans hb6)); clear h6 hb6 hg6 hob6)
                  | (at_builtin; refine wpl_app rfl _ _ rfl elem_gate (own_below H6.out.1 ((Below.refl w6.heap.size w6).alloc (Nat.le_refl _) _)) rfl rfl (by simp) (Sl.new _ _ _) (by simp [Value.oneCell']) (gs.length + 1) rfl (gcells (gs ++ [⟨b, a⟩])) (by rw [← gcells_append]; rfl) (by unfold maxLen; omega) (by omega) (H6.out.2.alloc H6.out.2.size _).size ?_; intro s7 c7 w7 h7 hb7 hg7 hob7; have H7 := Lib.hid (And.intro h7 ((H6.out.2.alloc H6.out.2.size _).trans hb7)); clear h7 hb7 hg7 hob7; obtain ⟨rc, rf⟩ := blk_all (HB.out _ H7.out.2).2.1))
                have k1 := (HB.out _ H7.out.2).2.1
                have k2 := (HB.out _ H7.out.2).2.2.1
                have hA8 : (w7.setCell ⟨A, 2, none⟩ (.slice s7 (gs.length + 1) c7)).heap[A]? = some (.cells #[.int .i64 inp, .slice sn ln cn, .slice s7 (gs.length + 1) c7, .slice so lo co] 28 (0, 0)) := by
                  simpa using blk_set (o := 2) (v := .slice s7 (gs.length + 1) c7) k1
                have hR8 : (w7.setCell ⟨A, 2, none⟩ (.slice s7 (gs.length + 1) c7)).heap[A + 1]? = some (.cells #[.int .i64 0, .slice none 0 0, .slice none 0 0, .slice none 0 0] 28 (0, 0)) := blk_set_ne (o := 2) (v := .slice s7 (gs.length + 1) c7) (by omega) k2
                have hzz := HW.out.2.2.1
                have hown8 := own_set_ne (b := A) (o := 2) H7.out.1 (by intro e; have := (own_blk H7.out.1 e).1; omega) (.slice s7 (gs.length + 1) c7)
                have hB8 := ((HB.out _ H7.out.2).2.2.2.2).setCell (p := ⟨A, 2, none⟩) (by simp) (.slice s7 (gs.length + 1) c7)
                clear rc rf k1 k2 hzz cb
                revert hA8 hR8 hown8 hB8
                generalize w7.setCell ⟨A, 2, none⟩ (.slice s7 (gs.length + 1) c7) = W8
                intro hA8 hR8 hown8 hB8
                have wa : IntKind.i64.wrap ((F : Int) + ((gs.length : Int) + 1)) = (F : Int) + ((gs.length : Int) + 1) := IntWalk.i64_in _ ⟨by omega, by omega⟩
                have wb : IntKind.i64.wrap ((F : Int) + ((gs.length : Int) + 1) - 1) = (F : Int) + (gs.length : Int) := by rw [IntWalk.i64_in _ ⟨by omega, by omega⟩]; omega
                have wc : IntKind.i64.wrap (2 * ((F : Int) + (gs.length : Int))) = 2 * ((F : Int) + (gs.length : Int)) := IntWalk.i64_in _ ⟨by omega, by omega⟩
                refine wp_region_T (fun w' => ∀ o, w'.cell? ⟨A, o, none⟩ = #[Value.int .i64 inp, .slice sn ln cn, .slice s7 (gs.length + 1) c7, .slice so lo co][o]?) (.q 0 (.q 1 (.q 2 (.q 3 (.q 4 (.q 5 (.q 6 (.q 7 (.e 8 (.q 9 .nil)))))))))) (by kernel_rfl) (by kernel_rfl) (by kernel_rfl) (blk_all (blk_below (Below.refl W8.heap.size W8).drew (blk_lt hA8) hA8)).1 ?_
                have hd := (Below.refl W8.heap.size W8).drew
                have h9 := And.intro (blk_below hd (blk_lt hA8) hA8) (And.intro (blk_below hd (blk_lt hR8) hR8) (And.intro (own_below hown8 hd) (hB8.trans (hd.mono (Nat.le_of_lt (blk_lt hA8))))))
                clear hA8 hR8 hown8 hB8 hd
                revert h9
                generalize W8.drew = W9
                intro h9
                have H9 := Lib.hid h9
                clear h9
                repeat (first | (refine ordt_s (o := ?_) ?_ ?_ ?_; rotate_left 1; (focus ((simp only [zD, zE, zF]) <;> rfl)); (focus rfl); simp only [Act.put, zA, zB, zC]) | (refine ordt_q (o := ?_) (v := ?_) ?_ ?_ ?_ ?_; rotate_left 2; (focus ((simp only [zD, zE, zF]) <;> rfl)); (focus rfl); (focus (intro w' hS; (try dsimp only at hS); go_split_ands; go_simp; (try (with_reducible rfl)))); simp only [Act.put, zA, zB, zC]))
                obtain ⟨rc, rf⟩ := blk_all H9.out.2.1
                refine ordt_e ?_
                (refine op_e (o := ?_) ?_ ?_ (fun K hK => ?_); rotate_left 1; (focus ((simp only [zD, zE, zF]) <;> rfl)); (focus rfl); go_simp)
                have hAZ := blk_set_ne (c := A + 1) (o := 3) (v := .slice so lo co) (show A + 1 ≠ A by omega) (blk_set_ne (c := A + 1) (o := 2) (v := .slice s7 (gs.length + 1) c7) (show A + 1 ≠ A by omega) (blk_set_ne (c := A + 1) (o := 1) (v := .slice sn ln cn) (show A + 1 ≠ A by omega) (blk_set_ne (c := A + 1) (o := 0) (v := .int .i64 inp) (show A + 1 ≠ A by omega) H9.out.1)))
                refine hK.out _ _ (blk_all hAZ).1 ?_
                clear hK K hAZ rc rf
                have hZ : ((((W9.setCell ⟨A + 1, 0, none⟩ (.int .i64 inp)).setCell ⟨A + 1, 1, none⟩ (.slice sn ln cn)).setCell ⟨A + 1, 2, none⟩ (.slice s7 (gs.length + 1) c7)).setCell ⟨A + 1, 3, none⟩ (.slice so lo co)).heap[A + 1]? = some (.cells #[.int .i64 inp, .slice sn ln cn, .slice s7 (gs.length + 1) c7, .slice so lo co] 28 (0, 0)) := by
                  simpa using blk_set (o := 3) (v := .slice so lo co) (blk_set (o := 2) (v := .slice s7 (gs.length + 1) c7) (blk_set (o := 1) (v := .slice sn ln cn) (blk_set (o := 0) (v := .int .i64 inp) H9.out.2.1)))
                have hzz := HW.out.2.2.1
                have hBZ := ((((H9.out.2.2.2).setCell (p := ⟨A + 1, 0, none⟩) (by simp) (.int .i64 inp)).setCell (p := ⟨A + 1, 1, none⟩) (by simp) (.slice sn ln cn)).setCell (p := ⟨A + 1, 2, none⟩) (by simp) (.slice s7 (gs.length + 1) c7)).setCell (p := ⟨A + 1, 3, none⟩) (by simp) (.slice so lo co)
                have hne : (Value.slice s7 (gs.length + 1) c7).ownBlock ≠ some (A + 1) := by intro e; have := (own_blk H9.out.2.2.1 e).1; omega
                have hoZ := own_set_ne (own_set_ne (own_set_ne (own_set_ne (o := 0) H9.out.2.2.1 hne (.int .i64 inp)) (o := 1) hne (.slice sn ln cn)) (o := 2) hne (.slice s7 (gs.length + 1) c7)) (o := 3) hne (.slice so lo co)
                have hoA := own_base (base' := A) hoZ (by omega)
                clear hne hoZ hzz
                revert hZ hBZ hoA
                generalize ((((W9.setCell ⟨A + 1, 0, none⟩ (.int .i64 inp)).setCell ⟨A + 1, 1, none⟩ (.slice sn ln cn)).setCell ⟨A + 1, 2, none⟩ (.slice s7 (gs.length + 1) c7)).setCell ⟨A + 1, 3, none⟩ (.slice so lo co)) = WZ
                intro hZ hBZ hoA
                (try simp only [Act.put, zA, zB, zC])
                repeat (first | (refine ordt_s (o := ?_) ?_ ?_ ?_; rotate_left 1; (focus ((simp only [zD, zE, zF]) <;> rfl)); (focus rfl); simp only [Act.put, zA, zB, zC]) | (refine ordt_q (o := ?_) (v := ?_) ?_ ?_ ?_ ?_; rotate_left 2; (focus ((simp only [zD, zE, zF]) <;> rfl)); (focus rfl); (focus (intro w' hS; (try dsimp only at hS); go_split_ands; go_simp; (try (with_reducible rfl)))); simp only [Act.put, zA, zB, zC]))
                refine ordt_nil ?_
                go_wp2_with fail
                have cr := (blk_all hZ).1
                have e0 := HR.out
                rw [andK_new HN0.out HN1.out HFN.out, HFF.out] at e0
                have el : (gs ++ [(⟨b, a⟩ : Gt)]).length = gs.length + 1 := by simp
                exact bodyPost_ret (v := .tuple #[.agg #[.int .i64 inp, .slice sn ln cn, .slice s7 (gs.length + 1) c7, .slice so lo co], .int .i64 (2 * ((F : Int) + (gs.length : Int)))]) (by simp [results, Try.results85, go_sem, cr]) rfl ⟨_, by rw [e0], .inr (by rw [e0, ← HW.out.2.1]; show WZ.ownsRow A _ 2 _ (gs ++ [(⟨b, a⟩ : Gt)]).length _; rw [el]; exact hoA), by rw [← HW.out.2.1]; exact hBZ⟩
    · have HN0 : Hid (¬ (b = 0 ∨ (b = a - 1 ∧ b % 2 = 0))) := fun h => h.elim HX0.out (fun h => hx2 h.1)
      have c2 : (b == a - 1) = false := by simpa using hx2
      clear hx2
      by_cases hx4 : b = 1
      · have HX4 := Lib.hid hx4
        have c4 : (b == 1) = true := by simpa using hx4
        clear hx4
        have hBV := HB.out _ (Below.refl _ _)
        obtain ⟨rc, rf⟩ := blk_all hBV.2.2.1
        go_wp2_with fail
        have hZ : ((((W0.setCell ⟨A + 1, 0, none⟩ (.int .i64 inp)).setCell ⟨A + 1, 1, none⟩ (.slice sn ln cn)).setCell ⟨A + 1, 2, none⟩ (.slice sg gs.length cg)).setCell ⟨A + 1, 3, none⟩ (.slice so lo co)).heap[A + 1]? = some (.cells #[.int .i64 inp, .slice sn ln cn, .slice sg gs.length cg, .slice so lo co] 28 (0, 0)) := by
          simpa using blk_set (o := 3) (v := .slice so lo co) (blk_set (o := 2) (v := .slice sg gs.length cg) (blk_set (o := 1) (v := .slice sn ln cn) (blk_set (o := 0) (v := .int .i64 inp) hBV.2.2.1)))
        have hBZ := ((((hBV.2.2.2.2).setCell (p := ⟨A + 1, 0, none⟩) (by simp) (.int .i64 inp)).setCell (p := ⟨A + 1, 1, none⟩) (by simp) (.slice sn ln cn)).setCell (p := ⟨A + 1, 2, none⟩) (by simp) (.slice sg gs.length cg)).setCell (p := ⟨A + 1, 3, none⟩) (by simp) (.slice so lo co)
        clear rc rf
        revert hZ hBZ
        generalize ((((W0.setCell ⟨A + 1, 0, none⟩ (.int .i64 inp)).setCell ⟨A + 1, 1, none⟩ (.slice sn ln cn)).setCell ⟨A + 1, 2, none⟩ (.slice sg gs.length cg)).setCell ⟨A + 1, 3, none⟩ (.slice so lo co)) = WZ
        intro hZ hBZ
        have cr := (blk_all hZ).1
        have e0 := HR.out
        rw [andK_same HN0.out (.inl HX4.out)] at e0
        exact bodyPost_ret (v := .tuple #[.agg #[.int .i64 inp, .slice sn ln cn, .slice sg gs.length cg, .slice so lo co], .int .i64 a]) (by simp [results, Try.results85, go_sem, cr]) rfl ⟨_, by rw [e0], .inl ⟨rfl, by rw [e0]⟩, by rw [← HW.out.2.1]; exact hBZ⟩
      · by_cases hx5 : b = a
        · have HX4 := Lib.hid hx5
          have c4 : (b == 1) = false := by simpa using hx4
          have c5 : (b == a) = true := by simpa using hx5
          clear hx4 hx5
          have hBV := HB.out _ (Below.refl _ _)
          obtain ⟨rc, rf⟩ := blk_all hBV.2.2.1
          go_wp2_with fail
          have hZ : ((((W0.setCell ⟨A + 1, 0, none⟩ (.int .i64 inp)).setCell ⟨A + 1, 1, none⟩ (.slice sn ln cn)).setCell ⟨A + 1, 2, none⟩ (.slice sg gs.length cg)).setCell ⟨A + 1, 3, none⟩ (.slice so lo co)).heap[A + 1]? = some (.cells #[.int .i64 inp, .slice sn ln cn, .slice sg gs.length cg, .slice so lo co] 28 (0, 0)) := by
            simpa using blk_set (o := 3) (v := .slice so lo co) (blk_set (o := 2) (v := .slice sg gs.length cg) (blk_set (o := 1) (v := .slice sn ln cn) (blk_set (o := 0) (v := .int .i64 inp) hBV.2.2.1)))
          have hBZ := ((((hBV.2.2.2.2).setCell (p := ⟨A + 1, 0, none⟩) (by simp) (.int .i64 inp)).setCell (p := ⟨A + 1, 1, none⟩) (by simp) (.slice sn ln cn)).setCell (p := ⟨A + 1, 2, none⟩) (by simp) (.slice sg gs.length cg)).setCell (p := ⟨A + 1, 3, none⟩) (by simp) (.slice so lo co)
          clear rc rf
          revert hZ hBZ
          generalize ((((W0.setCell ⟨A + 1, 0, none⟩ (.int .i64 inp)).setCell ⟨A + 1, 1, none⟩ (.slice sn ln cn)).setCell ⟨A + 1, 2, none⟩ (.slice sg gs.length cg)).setCell ⟨A + 1, 3, none⟩ (.slice so lo co)) = WZ
          intro hZ hBZ
          have cr := (blk_all hZ).1
          have e0 := HR.out
          rw [andK_same HN0.out (.inr HX4.out)] at e0
          exact bodyPost_ret (v := .tuple #[.agg #[.int .i64 inp, .slice sn ln cn, .slice sg gs.length cg, .slice so lo co], .int .i64 a]) (by simp [results, Try.results85, go_sem, cr]) rfl ⟨_, by rw [e0], .inl ⟨rfl, by rw [e0]⟩, by rw [← HW.out.2.1]; exact hBZ⟩
        · have HN1 : Hid (¬ (b = 1 ∨ b = a)) := fun h => h.elim hx4 hx5
          have c4 : (b == 1) = false := by simpa using hx4
          have c5 : (b == a) = false := by simpa using hx5
          clear hx4 hx5
          obtain ⟨F, hF⟩ : ∃ F : Nat, 1 + inp + (ln : Int) = F := ⟨(1 + inp + (ln : Int)).toNat, by omega⟩
          have hF2 : F ≤ 21 := by omega
          have HFF := Lib.hid hF
          go_upto_region 11 with (go_at_call 44; ((with_reducible refine (l1First_any _ _ _ _ _ _ _ (by omega) (by omega)).mono ?_); rintro e w2 ⟨rfl, hq⟩; rw [HFF.out]; have H2 := Lib.hid hq; clear hq cb; have cb := (HB.out _ H2.out).1))
          clear hF
          go_loop [10] (fun s10 => ∃ i : Nat, i ≤ gs.length ∧ s10 = .int .i64 i ∧ ∀ j, j < i → gs[j]? ≠ some ⟨b, a⟩) (fun s10 => gs.length - (intOf s10).toNat)
          case atStart => exact ⟨0, Nat.zero_le _, rfl, fun j hj => by omega⟩
          case round =>
            obtain ⟨i, hi, rfl, hn⟩ := hrel
            have HNN := Lib.hid hn
            clear hn
            by_cases hlt : i < gs.length
            · obtain ⟨g, hg⟩ := get_of_lt hlt
              obtain ⟨bb, off, rfl, hbw, y1, y2⟩ := (HB.out _ (Below.refl _ _)).2.2.2.1.gate H2.out hg
              have HG := Lib.hid hg
              clear hg
              by_cases hga : g.a = b
              · have d1 : (g.a == b) = true := by simpa using hga
                have HGA := Lib.hid hga
                clear hga
                by_cases hgb : g.b = a
                · have d2 : (g.b == a) = true := by simpa using hgb
                  have HGB := Lib.hid hgb
                  clear hgb
                  have hfnd : fndG gs ⟨b, a⟩ 0 = some (0 + i) := fndG_some (by rw [HG.out]; congr 1; cases g; simp only [Gt.mk.injEq]; exact ⟨HGA.out, HGB.out⟩) HNN.out
                  rw [Nat.zero_add] at hfnd
                  have HFN := Lib.hid hfnd
                  clear hfnd
                  have hBV := HB.out _ H2.out
                  obtain ⟨rc, rf⟩ := blk_all hBV.2.2.1
                  go_wp2_with fail
                  have hZ : ((((w2.setCell ⟨A + 1, 0, none⟩ (.int .i64 inp)).setCell ⟨A + 1, 1, none⟩ (.slice sn ln cn)).setCell ⟨A + 1, 2, none⟩ (.slice (some ⟨bb, off, none⟩) gs.length cg)).setCell ⟨A + 1, 3, none⟩ (.slice so lo co)).heap[A + 1]? = some (.cells #[.int .i64 inp, .slice sn ln cn, .slice (some ⟨bb, off, none⟩) gs.length cg, .slice so lo co] 28 (0, 0)) := by
                    simpa using blk_set (o := 3) (v := .slice so lo co) (blk_set (o := 2) (v := .slice (some ⟨bb, off, none⟩) gs.length cg) (blk_set (o := 1) (v := .slice sn ln cn) (blk_set (o := 0) (v := .int .i64 inp) hBV.2.2.1)))
                  have hBZ := ((((hBV.2.2.2.2).setCell (p := ⟨A + 1, 0, none⟩) (by simp) (.int .i64 inp)).setCell (p := ⟨A + 1, 1, none⟩) (by simp) (.slice sn ln cn)).setCell (p := ⟨A + 1, 2, none⟩) (by simp) (.slice (some ⟨bb, off, none⟩) gs.length cg)).setCell (p := ⟨A + 1, 3, none⟩) (by simp) (.slice so lo co)
                  clear rc rf
                  revert hZ hBZ
                  generalize ((((w2.setCell ⟨A + 1, 0, none⟩ (.int .i64 inp)).setCell ⟨A + 1, 1, none⟩ (.slice sn ln cn)).setCell ⟨A + 1, 2, none⟩ (.slice (some ⟨bb, off, none⟩) gs.length cg)).setCell ⟨A + 1, 3, none⟩ (.slice so lo co)) = WZ
                  intro hZ hBZ
                  have cr := (blk_all hZ).1
                  have e0 := HR.out
                  rw [andK_old HN0.out HN1.out HFN.out, HFF.out] at e0
                  exact bodyPost_ret (v := .tuple #[.agg #[.int .i64 inp, .slice sn ln cn, .slice (some ⟨bb, off, none⟩) gs.length cg, .slice so lo co], .int .i64 (2 * ((F : Int) + (i : Int)))]) (by simp [results, Try.results85, go_sem, cr]) rfl ⟨_, by rw [e0], .inl ⟨rfl, by rw [e0]⟩, by rw [← HW.out.2.1]; exact hBZ⟩
                · have d2 : (g.b == a) = false := by simpa using hgb
                  go_wp2_with fail
                  go_round
                  case rel => exact ⟨i + 1, by omega, by go_num, fun j hj e => by
                    by_cases e2 : j = i
                    · subst e2; rw [HG.out] at e; cases e; exact hgb rfl
                    · exact HNN.out j (by omega) e⟩
                  case measure => simp [intOf]; omega
              · have d1 : (g.a == b) = false := by simpa using hga
                go_wp2_with fail
                go_round
                case rel => exact ⟨i + 1, by omega, by go_num, fun j hj e => by
                  by_cases e2 : j = i
                  · subst e2; rw [HG.out] at e; cases e; exact hga rfl
                  · exact HNN.out j (by omega) e⟩
                case measure => simp [intOf]; omega
            · obtain rfl : i = gs.length := by omega
              have hfnd : fndG gs ⟨b, a⟩ 0 = none := fndG_none HNN.out
              have HFN := Lib.hid hfnd
              clear hfnd
              have g1 := (HB.out _ H2.out)
              have hal := H2.out.alloc H2.out.size (.cells #[] 24)
              have hown0 : World.ownsRow (w2.alloc (.cells #[] 24)) W0.heap.size 24 2 (.slice (some ⟨w2.heap.size, 0, none⟩) 0 0) 0 [] := own_of_blk (size := 2) (n := 0) (cur := #[]) (blk_new w2 _) H2.out.size (by simp) (by unfold maxLen; omega)
              have HO0 := Lib.hid (And.intro hown0 (And.intro (HB.out _ hal).2.2.2.1 hal))
              clear hown0 hal g1
              have hsA : A < w2.heap.size := by have h1 := H2.out.size; have h2 := HW.out.2.2.1; omega
              go_upto_region 16 with (first
                | (at_builtin; refine wpl_app rfl _ _ rfl elem_gate HO0.out.1 rfl rfl (by rw [gcells_length]; omega) HO0.out.2.1 (gcells_one _) gs.length (by omega) (gcells gs) (by simp) (by unfold maxLen; omega) (by omega) HO0.out.2.2.size ?_; intro s6 c6 w6 h6 hb6 hg6 hob6; have H6 := Lib.hid (And.intro h6 (HO0.out.2.2.trans hb6)); clear h6 hb6 hg6 hob6)
                | (at_builtin; refine wpl_app rfl _ _ rfl elem_gate (own_below H6.out.1 ((Below.refl w6.heap.size w6).alloc (Nat.le_refl _) _)) rfl rfl (by simp) (Sl.new _ _ _) (by simp [Value.oneCell']) (gs.length + 1) rfl (gcells (gs ++ [⟨b, a⟩])) (by rw [← gcells_append]; rfl) (by unfold maxLen; omega) (by omega) (H6.out.2.alloc H6.out.2.size _).size ?_; intro s7 c7 w7 h7 hb7 hg7 hob7; have H7 := Lib.hid (And.intro h7 ((H6.out.2.alloc H6.out.2.size _).trans hb7)); clear h7 hb7 hg7 hob7; obtain ⟨rc, rf⟩ := blk_all (HB.out _ H7.out.2).2.1))
              have k1 := (HB.out _ H7.out.2).2.1
              have k2 := (HB.out _ H7.out.2).2.2.1
              have hA8 : (w7.setCell ⟨A, 2, none⟩ (.slice s7 (gs.length + 1) c7)).heap[A]? = some (.cells #[.int .i64 inp, .slice sn ln cn, .slice s7 (gs.length + 1) c7, .slice so lo co] 28 (0, 0)) := by
                simpa using blk_set (o := 2) (v := .slice s7 (gs.length + 1) c7) k1
              have hR8 : (w7.setCell ⟨A, 2, none⟩ (.slice s7 (gs.length + 1) c7)).heap[A + 1]? = some (.cells #[.int .i64 0, .slice none 0 0, .slice none 0 0, .slice none 0 0] 28 (0, 0)) := blk_set_ne (o := 2) (v := .slice s7 (gs.length + 1) c7) (by omega) k2
              have hzz := HW.out.2.2.1
              have hown8 := own_set_ne (b := A) (o := 2) H7.out.1 (by intro e; have := (own_blk H7.out.1 e).1; omega) (.slice s7 (gs.length + 1) c7)
              have hB8 := ((HB.out _ H7.out.2).2.2.2.2).setCell (p := ⟨A, 2, none⟩) (by simp) (.slice s7 (gs.length + 1) c7)
              clear rc rf k1 k2 hzz cb
              revert hA8 hR8 hown8 hB8
              generalize w7.setCell ⟨A, 2, none⟩ (.slice s7 (gs.length + 1) c7) = W8
              intro hA8 hR8 hown8 hB8
              have wa : IntKind.i64.wrap ((F : Int) + ((gs.length : Int) + 1)) = (F : Int) + ((gs.length : Int) + 1) := IntWalk.i64_in _ ⟨by omega, by omega⟩
              have wb : IntKind.i64.wrap ((F : Int) + ((gs.length : Int) + 1) - 1) = (F : Int) + (gs.length : Int) := by rw [IntWalk.i64_in _ ⟨by omega, by omega⟩]; omega
              have wc : IntKind.i64.wrap (2 * ((F : Int) + (gs.length : Int))) = 2 * ((F : Int) + (gs.length : Int)) := IntWalk.i64_in _ ⟨by omega, by omega⟩
              refine wp_region_T (fun w' => ∀ o, w'.cell? ⟨A, o, none⟩ = #[Value.int .i64 inp, .slice sn ln cn, .slice s7 (gs.length + 1) c7, .slice so lo co][o]?) (.q 0 (.q 1 (.q 2 (.q 3 (.q 4 (.q 5 (.q 6 (.q 7 (.e 8 (.q 9 .nil)))))))))) (by kernel_rfl) (by kernel_rfl) (by kernel_rfl) (blk_all (blk_below (Below.refl W8.heap.size W8).drew (blk_lt hA8) hA8)).1 ?_
              have hd := (Below.refl W8.heap.size W8).drew
              have h9 := And.intro (blk_below hd (blk_lt hA8) hA8) (And.intro (blk_below hd (blk_lt hR8) hR8) (And.intro (own_below hown8 hd) (hB8.trans (hd.mono (Nat.le_of_lt (blk_lt hA8))))))
              clear hA8 hR8 hown8 hB8 hd
              revert h9
              generalize W8.drew = W9
              intro h9
              have H9 := Lib.hid h9
              clear h9
              repeat (first | (refine ordt_s (o := ?_) ?_ ?_ ?_; rotate_left 1; (focus ((simp only [zD, zE, zF]) <;> rfl)); (focus rfl); simp only [Act.put, zA, zB, zC]) | (refine ordt_q (o := ?_) (v := ?_) ?_ ?_ ?_ ?_; rotate_left 2; (focus ((simp only [zD, zE, zF]) <;> rfl)); (focus rfl); (focus (intro w' hS; (try dsimp only at hS); go_split_ands; go_simp; (try (with_reducible rfl)))); simp only [Act.put, zA, zB, zC]))
              obtain ⟨rc, rf⟩ := blk_all H9.out.2.1
              refine ordt_e ?_
              (refine op_e (o := ?_) ?_ ?_ (fun K hK => ?_); rotate_left 1; (focus ((simp only [zD, zE, zF]) <;> rfl)); (focus rfl); go_simp)
              have hAZ := blk_set_ne (c := A + 1) (o := 3) (v := .slice so lo co) (show A + 1 ≠ A by omega) (blk_set_ne (c := A + 1) (o := 2) (v := .slice s7 (gs.length + 1) c7) (show A + 1 ≠ A by omega) (blk_set_ne (c := A + 1) (o := 1) (v := .slice sn ln cn) (show A + 1 ≠ A by omega) (blk_set_ne (c := A + 1) (o := 0) (v := .int .i64 inp) (show A + 1 ≠ A by omega) H9.out.1)))
              refine hK.out _ _ (blk_all hAZ).1 ?_
              clear hK K hAZ rc rf
              have hZ : ((((W9.setCell ⟨A + 1, 0, none⟩ (.int .i64 inp)).setCell ⟨A + 1, 1, none⟩ (.slice sn ln cn)).setCell ⟨A + 1, 2, none⟩ (.slice s7 (gs.length + 1) c7)).setCell ⟨A + 1, 3, none⟩ (.slice so lo co)).heap[A + 1]? = some (.cells #[.int .i64 inp, .slice sn ln cn, .slice s7 (gs.length + 1) c7, .slice so lo co] 28 (0, 0)) := by
                simpa using blk_set (o := 3) (v := .slice so lo co) (blk_set (o := 2) (v := .slice s7 (gs.length + 1) c7) (blk_set (o := 1) (v := .slice sn ln cn) (blk_set (o := 0) (v := .int .i64 inp) H9.out.2.1)))
              have hzz := HW.out.2.2.1
              have hBZ := ((((H9.out.2.2.2).setCell (p := ⟨A + 1, 0, none⟩) (by simp) (.int .i64 inp)).setCell (p := ⟨A + 1, 1, none⟩) (by simp) (.slice sn ln cn)).setCell (p := ⟨A + 1, 2, none⟩) (by simp) (.slice s7 (gs.length + 1) c7)).setCell (p := ⟨A + 1, 3, none⟩) (by simp) (.slice so lo co)
              have hne : (Value.slice s7 (gs.length + 1) c7).ownBlock ≠ some (A + 1) := by intro e; have := (own_blk H9.out.2.2.1 e).1; omega
              have hoZ := own_set_ne (own_set_ne (own_set_ne (own_set_ne (o := 0) H9.out.2.2.1 hne (.int .i64 inp)) (o := 1) hne (.slice sn ln cn)) (o := 2) hne (.slice s7 (gs.length + 1) c7)) (o := 3) hne (.slice so lo co)
              have hoA := own_base (base' := A) hoZ (by omega)
              clear hne hoZ hzz
              revert hZ hBZ hoA
              generalize ((((W9.setCell ⟨A + 1, 0, none⟩ (.int .i64 inp)).setCell ⟨A + 1, 1, none⟩ (.slice sn ln cn)).setCell ⟨A + 1, 2, none⟩ (.slice s7 (gs.length + 1) c7)).setCell ⟨A + 1, 3, none⟩ (.slice so lo co)) = WZ
              intro hZ hBZ hoA
              (try simp only [Act.put, zA, zB, zC])
              repeat (first | (refine ordt_s (o := ?_) ?_ ?_ ?_; rotate_left 1; (focus ((simp only [zD, zE, zF]) <;> rfl)); (focus rfl); simp only [Act.put, zA, zB, zC]) | (refine ordt_q (o := ?_) (v := ?_) ?_ ?_ ?_ ?_; rotate_left 2; (focus ((simp only [zD, zE, zF]) <;> rfl)); (focus rfl); (focus (intro w' hS; (try dsimp only at hS); go_split_ands; go_simp; (try (with_reducible rfl)))); simp only [Act.put, zA, zB, zC]))
              refine ordt_nil ?_
              go_wp2_with fail
              have cr := (blk_all hZ).1
              have e0 := HR.out
              rw [andK_new HN0.out HN1.out HFN.out, HFF.out] at e0
              have el : (gs ++ [(⟨b, a⟩ : Gt)]).length = gs.length + 1 := by simp
              exact bodyPost_ret (v := .tuple #[.agg #[.int .i64 inp, .slice sn ln cn, .slice s7 (gs.length + 1) c7, .slice so lo co], .int .i64 (2 * ((F : Int) + (gs.length : Int)))]) (by simp [results, Try.results85, go_sem, cr]) rfl ⟨_, by rw [e0], .inr (by rw [e0, ← HW.out.2.1]; show WZ.ownsRow A _ 2 _ (gs ++ [(⟨b, a⟩ : Gt)]).length _; rw [el]; exact hoA), by rw [← HW.out.2.1]; exact hBZ⟩

set_option maxRecDepth 100000 in
set_option maxHeartbeats 12800000 in
theorem l3And_ge (inp : Int) (sn sg so : Option Addr) (ln cn cg lo co : Nat) (gs : List Gt) (a b : Int) (w : World) (h : Sl w sg (gcells gs)) (hg : gs.length ≤ 130) (hi : 0 ≤ inp ∧ inp ≤ 10) (hn : ln ≤ 10) (ha : 0 ≤ a ∧ a ≤ 300) (hb : 0 ≤ b ∧ b ≤ 300) (hab : ¬ b < a) :
    Calls Try.prog 85 #[.agg #[.int .i64 inp, .slice sn ln cn, .slice sg gs.length cg, .slice so lo co], .int .i64 a, .int .i64 b] w
      (AnPost inp (.slice sn ln cn) (.slice so lo co) sg cg gs (andL (1 + inp + ln) gs a b) w) := by
  obtain ⟨i0, i1⟩ := hi
  obtain ⟨a0, a1⟩ := ha
  obtain ⟨b0, b1⟩ := hb
  have HS := Lib.hid h
  clear h
  obtain ⟨W0, hW0⟩ : ∃ W0, W0 = (w.alloc (.cells #[.int .i64 inp, .slice sn ln cn, .slice sg gs.length cg, .slice so lo co] 28)).alloc (.cells #[.int .i64 0, .slice none 0 0, .slice none 0 0, .slice none 0 0] 28) := ⟨_, rfl⟩
  obtain ⟨A, hA⟩ : ∃ A, A = w.heap.size := ⟨_, rfl⟩
  have z1 : W0.heap.size = A + 2 := by rw [hW0, hA]; simp
  have z2 : W0.heap[A]? = some (.cells #[.int .i64 inp, .slice sn ln cn, .slice sg gs.length cg, .slice so lo co] 28 (0, 0)) := by rw [hW0, hA]; exact blk_old (blk_new w _)
  have z3 : W0.heap[A + 1]? = some (.cells #[.int .i64 0, .slice none 0 0, .slice none 0 0, .slice none 0 0] 28 (0, 0)) := by rw [hW0, hA]; exact blk_at (by simp)
  have z4 : Below A w W0 := by rw [hW0, hA]; exact ((Below.refl _ _).alloc (Nat.le_refl _) _).alloc (by simp) _
  have HW := Lib.hid (And.intro hW0 (And.intro hA (And.intro z1 (And.intro z2 (And.intro z3 z4)))))
  clear hW0 hA z1 z2 z3 z4
  have HB : Hid (∀ W, Below W0.heap.size W0 W → (∀ o, W.cell? ⟨A, o, none⟩ = #[Value.int .i64 inp, .slice sn ln cn, .slice sg gs.length cg, .slice so lo co][o]?) ∧ W.heap[A]? = some (.cells #[.int .i64 inp, .slice sn ln cn, .slice sg gs.length cg, .slice so lo co] 28 (0, 0)) ∧ W.heap[A + 1]? = some (.cells #[.int .i64 0, .slice none 0 0, .slice none 0 0, .slice none 0 0] 28 (0, 0)) ∧ Sl W sg (gcells gs) ∧ Below A w W) := fun W hW => by
    have e := HW.out.2.2.1
    have q1 := blk_below hW (by omega) HW.out.2.2.2.1
    have hwa : Below A w W := HW.out.2.2.2.2.2.trans (hW.mono (by omega))
    exact ⟨(blk_all q1).1, q1, blk_below hW (by omega) HW.out.2.2.2.2.1, HS.out.mono (by rw [← HW.out.2.1]; exact hwa), hwa⟩
  obtain ⟨R, hR⟩ : ∃ R, R = andL (1 + inp + ln) gs a b := ⟨_, rfl⟩
  rw [← hR]
  have hRK : R = andK (1 + inp + ln) gs a b := by rw [hR]; unfold andL; rw [if_neg hab]
  have HR := Lib.hid hRK
  clear hR hRK
  go_enter Try.func85, Try.ntmps85
  go_upto_region 1 with fail
  rw [← HW.out.1, ← HW.out.2.1]
  go_upto_region 5 with fail
  have hle : a ≤ b := by omega
  clear hab
  have cb := (HB.out _ (Below.refl _ _)).1
  by_cases hx0 : a = 0
  · have hBV := HB.out _ (Below.refl _ _)
    obtain ⟨rc, rf⟩ := blk_all hBV.2.2.1
    go_wp2_with fail
    have hZ : ((((W0.setCell ⟨A + 1, 0, none⟩ (.int .i64 inp)).setCell ⟨A + 1, 1, none⟩ (.slice sn ln cn)).setCell ⟨A + 1, 2, none⟩ (.slice sg gs.length cg)).setCell ⟨A + 1, 3, none⟩ (.slice so lo co)).heap[A + 1]? = some (.cells #[.int .i64 inp, .slice sn ln cn, .slice sg gs.length cg, .slice so lo co] 28 (0, 0)) := by
      simpa using blk_set (o := 3) (v := .slice so lo co) (blk_set (o := 2) (v := .slice sg gs.length cg) (blk_set (o := 1) (v := .slice sn ln cn) (blk_set (o := 0) (v := .int .i64 inp) hBV.2.2.1)))
    have hBZ := ((((hBV.2.2.2.2).setCell (p := ⟨A + 1, 0, none⟩) (by simp) (.int .i64 inp)).setCell (p := ⟨A + 1, 1, none⟩) (by simp) (.slice sn ln cn)).setCell (p := ⟨A + 1, 2, none⟩) (by simp) (.slice sg gs.length cg)).setCell (p := ⟨A + 1, 3, none⟩) (by simp) (.slice so lo co)
    clear rc rf
    revert hZ hBZ
    generalize ((((W0.setCell ⟨A + 1, 0, none⟩ (.int .i64 inp)).setCell ⟨A + 1, 1, none⟩ (.slice sn ln cn)).setCell ⟨A + 1, 2, none⟩ (.slice sg gs.length cg)).setCell ⟨A + 1, 3, none⟩ (.slice so lo co)) = WZ
    intro hZ hBZ
    have cr := (blk_all hZ).1
    have e0 := HR.out
    rw [andK_zero (.inl hx0)] at e0
    exact bodyPost_ret (v := .tuple #[.agg #[.int .i64 inp, .slice sn ln cn, .slice sg gs.length cg, .slice so lo co], .int .i64 0]) (by simp [results, Try.results85, go_sem, cr]) rfl ⟨_, by rw [e0], .inl ⟨rfl, by rw [e0]⟩, by rw [← HW.out.2.1]; exact hBZ⟩
  · have HX0 := Lib.hid hx0
    have c1 : (a == 0) = false := by simpa using hx0
    clear hx0
    by_cases hx2 : a = b - 1
    · have HX2 := Lib.hid hx2
      have c2 : (a == b - 1) = true := by simpa using hx2
      clear hx2
      by_cases hx3 : a % 2 = 0
      · have HX3 := Lib.hid hx3
        have c3 : (a % 2 == 0) = true := by simpa using hx3
        clear hx3
        have hBV := HB.out _ (Below.refl _ _)
        obtain ⟨rc, rf⟩ := blk_all hBV.2.2.1
        go_wp2_with fail
        have hZ : ((((W0.setCell ⟨A + 1, 0, none⟩ (.int .i64 inp)).setCell ⟨A + 1, 1, none⟩ (.slice sn ln cn)).setCell ⟨A + 1, 2, none⟩ (.slice sg gs.length cg)).setCell ⟨A + 1, 3, none⟩ (.slice so lo co)).heap[A + 1]? = some (.cells #[.int .i64 inp, .slice sn ln cn, .slice sg gs.length cg, .slice so lo co] 28 (0, 0)) := by
          simpa using blk_set (o := 3) (v := .slice so lo co) (blk_set (o := 2) (v := .slice sg gs.length cg) (blk_set (o := 1) (v := .slice sn ln cn) (blk_set (o := 0) (v := .int .i64 inp) hBV.2.2.1)))
        have hBZ := ((((hBV.2.2.2.2).setCell (p := ⟨A + 1, 0, none⟩) (by simp) (.int .i64 inp)).setCell (p := ⟨A + 1, 1, none⟩) (by simp) (.slice sn ln cn)).setCell (p := ⟨A + 1, 2, none⟩) (by simp) (.slice sg gs.length cg)).setCell (p := ⟨A + 1, 3, none⟩) (by simp) (.slice so lo co)
        clear rc rf
        revert hZ hBZ
        generalize ((((W0.setCell ⟨A + 1, 0, none⟩ (.int .i64 inp)).setCell ⟨A + 1, 1, none⟩ (.slice sn ln cn)).setCell ⟨A + 1, 2, none⟩ (.slice sg gs.length cg)).setCell ⟨A + 1, 3, none⟩ (.slice so lo co)) = WZ
        intro hZ hBZ
        have cr := (blk_all hZ).1
        have e0 := HR.out
        rw [andK_zero (.inr ⟨HX2.out, HX3.out⟩)] at e0
        exact bodyPost_ret (v := .tuple #[.agg #[.int .i64 inp, .slice sn ln cn, .slice sg gs.length cg, .slice so lo co], .int .i64 0]) (by simp [results, Try.results85, go_sem, cr]) rfl ⟨_, by rw [e0], .inl ⟨rfl, by rw [e0]⟩, by rw [← HW.out.2.1]; exact hBZ⟩
      · have HN0 : Hid (¬ (a = 0 ∨ (a = b - 1 ∧ a % 2 = 0))) := fun h => h.elim HX0.out (fun h => hx3 h.2)
        have c3 : (a % 2 == 0) = false := by simpa using hx3
        clear hx3 HX2
        by_cases hx4 : a = 1
        · have HX4 := Lib.hid hx4
          have c4 : (a == 1) = true := by simpa using hx4
          clear hx4
          have hBV := HB.out _ (Below.refl _ _)
          obtain ⟨rc, rf⟩ := blk_all hBV.2.2.1
          go_wp2_with fail
          have hZ : ((((W0.setCell ⟨A + 1, 0, none⟩ (.int .i64 inp)).setCell ⟨A + 1, 1, none⟩ (.slice sn ln cn)).setCell ⟨A + 1, 2, none⟩ (.slice sg gs.length cg)).setCell ⟨A + 1, 3, none⟩ (.slice so lo co)).heap[A + 1]? = some (.cells #[.int .i64 inp, .slice sn ln cn, .slice sg gs.length cg, .slice so lo co] 28 (0, 0)) := by
            simpa using blk_set (o := 3) (v := .slice so lo co) (blk_set (o := 2) (v := .slice sg gs.length cg) (blk_set (o := 1) (v := .slice sn ln cn) (blk_set (o := 0) (v := .int .i64 inp) hBV.2.2.1)))
          have hBZ := ((((hBV.2.2.2.2).setCell (p := ⟨A + 1, 0, none⟩) (by simp) (.int .i64 inp)).setCell (p := ⟨A + 1, 1, none⟩) (by simp) (.slice sn ln cn)).setCell (p := ⟨A + 1, 2, none⟩) (by simp) (.slice sg gs.length cg)).setCell (p := ⟨A + 1, 3, none⟩) (by simp) (.slice so lo co)
          clear rc rf
          revert hZ hBZ
          generalize ((((W0.setCell ⟨A + 1, 0, none⟩ (.int .i64 inp)).setCell ⟨A + 1, 1, none⟩ (.slice sn ln cn)).setCell ⟨A + 1, 2, none⟩ (.slice sg gs.length cg)).setCell ⟨A + 1, 3, none⟩ (.slice so lo co)) = WZ
          intro hZ hBZ
          have cr := (blk_all hZ).1
          have e0 := HR.out
          rw [andK_same HN0.out (.inl HX4.out)] at e0
          exact bodyPost_ret (v := .tuple #[.agg #[.int .i64 inp, .slice sn ln cn, .slice sg gs.length cg, .slice so lo co], .int .i64 b]) (by simp [results, Try.results85, go_sem, cr]) rfl ⟨_, by rw [e0], .inl ⟨rfl, by rw [e0]⟩, by rw [← HW.out.2.1]; exact hBZ⟩
        · by_cases hx5 : a = b
          · have HX4 := Lib.hid hx5
            have c4 : (a == 1) = false := by simpa using hx4
            have c5 : (a == b) = true := by simpa using hx5
            clear hx4 hx5
            have hBV := HB.out _ (Below.refl _ _)
            obtain ⟨rc, rf⟩ := blk_all hBV.2.2.1
            go_wp2_with fail
            have hZ : ((((W0.setCell ⟨A + 1, 0, none⟩ (.int .i64 inp)).setCell ⟨A + 1, 1, none⟩ (.slice sn ln cn)).setCell ⟨A + 1, 2, none⟩ (.slice sg gs.length cg)).setCell ⟨A + 1, 3, none⟩ (.slice so lo co)).heap[A + 1]? = some (.cells #[.int .i64 inp, .slice sn ln cn, .slice sg gs.length cg, .slice so lo co] 28 (0, 0)) := by
              simpa using blk_set (o := 3) (v := .slice so lo co) (blk_set (o := 2) (v := .slice sg gs.length cg) (blk_set (o := 1) (v := .slice sn ln cn) (blk_set (o := 0) (v := .int .i64 inp) hBV.2.2.1)))
            have hBZ := ((((hBV.2.2.2.2).setCell (p := ⟨A + 1, 0, none⟩) (by simp) (.int .i64 inp)).setCell (p := ⟨A + 1, 1, none⟩) (by simp) (.slice sn ln cn)).setCell (p := ⟨A + 1, 2, none⟩) (by simp) (.slice sg gs.length cg)).setCell (p := ⟨A + 1, 3, none⟩) (by simp) (.slice so lo co)
            clear rc rf
            revert hZ hBZ
            generalize ((((W0.setCell ⟨A + 1, 0, none⟩ (.int .i64 inp)).setCell ⟨A + 1, 1, none⟩ (.slice sn ln cn)).setCell ⟨A + 1, 2, none⟩ (.slice sg gs.length cg)).setCell ⟨A + 1, 3, none⟩ (.slice so lo co)) = WZ
            intro hZ hBZ
            have cr := (blk_all hZ).1
            have e0 := HR.out
            rw [andK_same HN0.out (.inr HX4.out)] at e0
            exact bodyPost_ret (v := .tuple #[.agg #[.int .i64 inp, .slice sn ln cn, .slice sg gs.length cg, .slice so lo co], .int .i64 b]) (by simp [results, Try.results85, go_sem, cr]) rfl ⟨_, by rw [e0], .inl ⟨rfl, by rw [e0]⟩, by rw [← HW.out.2.1]; exact hBZ⟩
          · have HN1 : Hid (¬ (a = 1 ∨ a = b)) := fun h => h.elim hx4 hx5
            have c4 : (a == 1) = false := by simpa using hx4
            have c5 : (a == b) = false := by simpa using hx5
            clear hx4 hx5
            obtain ⟨F, hF⟩ : ∃ F : Nat, 1 + inp + (ln : Int) = F := ⟨(1 + inp + (ln : Int)).toNat, by omega⟩
            have hF2 : F ≤ 21 := by omega
            have HFF := Lib.hid hF
            go_upto_region 11 with (go_at_call 44; ((with_reducible refine (l1First_any _ _ _ _ _ _ _ (by omega) (by omega)).mono ?_); rintro e w2 ⟨rfl, hq⟩; rw [HFF.out]; have H2 := Lib.hid hq; clear hq cb; have cb := (HB.out _ H2.out).1))
            clear hF
            go_loop [10] (fun s10 => ∃ i : Nat, i ≤ gs.length ∧ s10 = .int .i64 i ∧ ∀ j, j < i → gs[j]? ≠ some ⟨a, b⟩) (fun s10 => gs.length - (intOf s10).toNat)
            case atStart => exact ⟨0, Nat.zero_le _, rfl, fun j hj => by omega⟩
            case round =>
              obtain ⟨i, hi, rfl, hn⟩ := hrel
              have HNN := Lib.hid hn
              clear hn
              by_cases hlt : i < gs.length
              · obtain ⟨g, hg⟩ := get_of_lt hlt
                obtain ⟨bb, off, rfl, hbw, y1, y2⟩ := (HB.out _ (Below.refl _ _)).2.2.2.1.gate H2.out hg
                have HG := Lib.hid hg
                clear hg
                by_cases hga : g.a = a
                · have d1 : (g.a == a) = true := by simpa using hga
                  have HGA := Lib.hid hga
                  clear hga
                  by_cases hgb : g.b = b
                  · have d2 : (g.b == b) = true := by simpa using hgb
                    have HGB := Lib.hid hgb
                    clear hgb
                    have hfnd : fndG gs ⟨a, b⟩ 0 = some (0 + i) := fndG_some (by rw [HG.out]; congr 1; cases g; simp only [Gt.mk.injEq]; exact ⟨HGA.out, HGB.out⟩) HNN.out
                    rw [Nat.zero_add] at hfnd
                    have HFN := Lib.hid hfnd
                    clear hfnd
                    have hBV := HB.out _ H2.out
                    obtain ⟨rc, rf⟩ := blk_all hBV.2.2.1
                    go_wp2_with fail
                    have hZ : ((((w2.setCell ⟨A + 1, 0, none⟩ (.int .i64 inp)).setCell ⟨A + 1, 1, none⟩ (.slice sn ln cn)).setCell ⟨A + 1, 2, none⟩ (.slice (some ⟨bb, off, none⟩) gs.length cg)).setCell ⟨A + 1, 3, none⟩ (.slice so lo co)).heap[A + 1]? = some (.cells #[.int .i64 inp, .slice sn ln cn, .slice (some ⟨bb, off, none⟩) gs.length cg, .slice so lo co] 28 (0, 0)) := by
                      simpa using blk_set (o := 3) (v := .slice so lo co) (blk_set (o := 2) (v := .slice (some ⟨bb, off, none⟩) gs.length cg) (blk_set (o := 1) (v := .slice sn ln cn) (blk_set (o := 0) (v := .int .i64 inp) hBV.2.2.1)))
                    have hBZ := ((((hBV.2.2.2.2).setCell (p := ⟨A + 1, 0, none⟩) (by simp) (.int .i64 inp)).setCell (p := ⟨A + 1, 1, none⟩) (by simp) (.slice sn ln cn)).setCell (p := ⟨A + 1, 2, none⟩) (by simp) (.slice (some ⟨bb, off, none⟩) gs.length cg)).setCell (p := ⟨A + 1, 3, none⟩) (by simp) (.slice so lo co)
                    clear rc rf
                    revert hZ hBZ
                    generalize ((((w2.setCell ⟨A + 1, 0, none⟩ (.int .i64 inp)).setCell ⟨A + 1, 1, none⟩ (.slice sn ln cn)).setCell ⟨A + 1, 2, none⟩ (.slice (some ⟨bb, off, none⟩) gs.length cg)).setCell ⟨A + 1, 3, none⟩ (.slice so lo co)) = WZ
                    intro hZ hBZ
                    have cr := (blk_all hZ).1
                    have e0 := HR.out
                    rw [andK_old HN0.out HN1.out HFN.out, HFF.out] at e0
                    exact bodyPost_ret (v := .tuple #[.agg #[.int .i64 inp, .slice sn ln cn, .slice (some ⟨bb, off, none⟩) gs.length cg, .slice so lo co], .int .i64 (2 * ((F : Int) + (i : Int)))]) (by simp [results, Try.results85, go_sem, cr]) rfl ⟨_, by rw [e0], .inl ⟨rfl, by rw [e0]⟩, by rw [← HW.out.2.1]; exact hBZ⟩
                  · have d2 : (g.b == b) = false := by simpa using hgb
                    go_wp2_with fail
                    go_round
                    case rel => exact ⟨i + 1, by omega, by go_num, fun j hj e => by
                      by_cases e2 : j = i
                      · subst e2; rw [HG.out] at e; cases e; exact hgb rfl
                      · exact HNN.out j (by omega) e⟩
                    case measure => simp [intOf]; omega
                · have d1 : (g.a == a) = false := by simpa using hga
                  go_wp2_with fail
                  go_round
                  case rel => exact ⟨i + 1, by omega, by go_num, fun j hj e => by
                    by_cases e2 : j = i
                    · subst e2; rw [HG.out] at e; cases e; exact hga rfl
                    · exact HNN.out j (by omega) e⟩
                  case measure => simp [intOf]; omega
              · obtain rfl : i = gs.length := by omega
                have hfnd : fndG gs ⟨a, b⟩ 0 = none := fndG_none HNN.out
                have HFN := Lib.hid hfnd
                clear hfnd
                have g1 := (HB.out _ H2.out)
                have hal := H2.out.alloc H2.out.size (.cells #[] 24)
                have hown0 : World.ownsRow (w2.alloc (.cells #[] 24)) W0.heap.size 24 2 (.slice (some ⟨w2.heap.size, 0, none⟩) 0 0) 0 [] := own_of_blk (size := 2) (n := 0) (cur := #[]) (blk_new w2 _) H2.out.size (by simp) (by unfold maxLen; omega)
                have HO0 := Lib.hid (And.intro hown0 (And.intro (HB.out _ hal).2.2.2.1 hal))
                clear hown0 hal g1
                have hsA : A < w2.heap.size := by have h1 := H2.out.size; have h2 := HW.out.2.2.1; omega
                go_upto_region 16 with (first
                  | (at_builtin; refine wpl_app rfl _ _ rfl elem_gate HO0.out.1 rfl rfl (by rw [gcells_length]; omega) HO0.out.2.1 (gcells_one _) gs.length (by omega) (gcells gs) (by simp) (by unfold maxLen; omega) (by omega) HO0.out.2.2.size ?_; intro s6 c6 w6 h6 hb6 hg6 hob6; have H6 := Lib.hid (And.intro h6 (HO0.out.2.2.trans hb6)); clear h6 hb6 hg6 hob6)
                  | (at_builtin; refine wpl_app rfl _ _ rfl elem_gate (own_below H6.out.1 ((Below.refl w6.heap.size w6).alloc (Nat.le_refl _) _)) rfl rfl (by simp) (Sl.new _ _ _) (by simp [Value.oneCell']) (gs.length + 1) rfl (gcells (gs ++ [⟨a, b⟩])) (by rw [← gcells_append]; rfl) (by unfold maxLen; omega) (by omega) (H6.out.2.alloc H6.out.2.size _).size ?_; intro s7 c7 w7 h7 hb7 hg7 hob7; have H7 := Lib.hid (And.intro h7 ((H6.out.2.alloc H6.out.2.size _).trans hb7)); clear h7 hb7 hg7 hob7; obtain ⟨rc, rf⟩ := blk_all (HB.out _ H7.out.2).2.1))
                have k1 := (HB.out _ H7.out.2).2.1
                have k2 := (HB.out _ H7.out.2).2.2.1
                have hA8 : (w7.setCell ⟨A, 2, none⟩ (.slice s7 (gs.length + 1) c7)).heap[A]? = some (.cells #[.int .i64 inp, .slice sn ln cn, .slice s7 (gs.length + 1) c7, .slice so lo co] 28 (0, 0)) := by
                  simpa using blk_set (o := 2) (v := .slice s7 (gs.length + 1) c7) k1
                have hR8 : (w7.setCell ⟨A, 2, none⟩ (.slice s7 (gs.length + 1) c7)).heap[A + 1]? = some (.cells #[.int .i64 0, .slice none 0 0, .slice none 0 0, .slice none 0 0] 28 (0, 0)) := blk_set_ne (o := 2) (v := .slice s7 (gs.length + 1) c7) (by omega) k2
                have hzz := HW.out.2.2.1
                have hown8 := own_set_ne (b := A) (o := 2) H7.out.1 (by intro e; have := (own_blk H7.out.1 e).1; omega) (.slice s7 (gs.length + 1) c7)
                have hB8 := ((HB.out _ H7.out.2).2.2.2.2).setCell (p := ⟨A, 2, none⟩) (by simp) (.slice s7 (gs.length + 1) c7)
                clear rc rf k1 k2 hzz cb
                revert hA8 hR8 hown8 hB8
                generalize w7.setCell ⟨A, 2, none⟩ (.slice s7 (gs.length + 1) c7) = W8
                intro hA8 hR8 hown8 hB8
                have wa : IntKind.i64.wrap ((F : Int) + ((gs.length : Int) + 1)) = (F : Int) + ((gs.length : Int) + 1) := IntWalk.i64_in _ ⟨by omega, by omega⟩
                have wb : IntKind.i64.wrap ((F : Int) + ((gs.length : Int) + 1) - 1) = (F : Int) + (gs.length : Int) := by rw [IntWalk.i64_in _ ⟨by omega, by omega⟩]; omega
                have wc : IntKind.i64.wrap (2 * ((F : Int) + (gs.length : Int))) = 2 * ((F : Int) + (gs.length : Int)) := IntWalk.i64_in _ ⟨by omega, by omega⟩
                refine wp_region_T (fun w' => ∀ o, w'.cell? ⟨A, o, none⟩ = #[Value.int .i64 inp, .slice sn ln cn, .slice s7 (gs.length + 1) c7, .slice so lo co][o]?) (.q 0 (.q 1 (.q 2 (.q 3 (.q 4 (.q 5 (.q 6 (.q 7 (.e 8 (.q 9 .nil)))))))))) (by kernel_rfl) (by kernel_rfl) (by kernel_rfl) (blk_all (blk_below (Below.refl W8.heap.size W8).drew (blk_lt hA8) hA8)).1 ?_
                have hd := (Below.refl W8.heap.size W8).drew
                have h9 := And.intro (blk_below hd (blk_lt hA8) hA8) (And.intro (blk_below hd (blk_lt hR8) hR8) (And.intro (own_below hown8 hd) (hB8.trans (hd.mono (Nat.le_of_lt (blk_lt hA8))))))
                clear hA8 hR8 hown8 hB8 hd
                revert h9
                generalize W8.drew = W9
                intro h9
                have H9 := Lib.hid h9
                clear h9
                repeat (first | (refine ordt_s (o := ?_) ?_ ?_ ?_; rotate_left 1; (focus ((simp only [zD, zE, zF]) <;> rfl)); (focus rfl); simp only [Act.put, zA, zB, zC]) | (refine ordt_q (o := ?_) (v := ?_) ?_ ?_ ?_ ?_; rotate_left 2; (focus ((simp only [zD, zE, zF]) <;> rfl)); (focus rfl); (focus (intro w' hS; (try dsimp only at hS); go_split_ands; go_simp; (try (with_reducible rfl)))); simp only [Act.put, zA, zB, zC]))
                obtain ⟨rc, rf⟩ := blk_all H9.out.2.1
                refine ordt_e ?_
                (refine op_e (o := ?_) ?_ ?_ (fun K hK => ?_); rotate_left 1; (focus ((simp only [zD, zE, zF]) <;> rfl)); (focus rfl); go_simp)
                have hAZ := blk_set_ne (c := A + 1) (o := 3) (v := .slice so lo co) (show A + 1 ≠ A by omega) (blk_set_ne (c := A + 1) (o := 2) (v := .slice s7 (gs.length + 1) c7) (show A + 1 ≠ A by omega) (blk_set_ne (c := A + 1) (o := 1) (v := .slice sn ln cn) (show A + 1 ≠ A by omega) (blk_set_ne (c := A + 1) (o := 0) (v := .int .i64 inp) (show A + 1 ≠ A by omega) H9.out.1)))
                refine hK.out _ _ (blk_all hAZ).1 ?_
                clear hK K hAZ rc rf
                have hZ : ((((W9.setCell ⟨A + 1, 0, none⟩ (.int .i64 inp)).setCell ⟨A + 1, 1, none⟩ (.slice sn ln cn)).setCell ⟨A + 1, 2, none⟩ (.slice s7 (gs.length + 1) c7)).setCell ⟨A + 1, 3, none⟩ (.slice so lo co)).heap[A + 1]? = some (.cells #[.int .i64 inp, .slice sn ln cn, .slice s7 (gs.length + 1) c7, .slice so lo co] 28 (0, 0)) := by
                  simpa using blk_set (o := 3) (v := .slice so lo co) (blk_set (o := 2) (v := .slice s7 (gs.length + 1) c7) (blk_set (o := 1) (v := .slice sn ln cn) (blk_set (o := 0) (v := .int .i64 inp) H9.out.2.1)))
                have hzz := HW.out.2.2.1
                have hBZ := ((((H9.out.2.2.2).setCell (p := ⟨A + 1, 0, none⟩) (by simp) (.int .i64 inp)).setCell (p := ⟨A + 1, 1, none⟩) (by simp) (.slice sn ln cn)).setCell (p := ⟨A + 1, 2, none⟩) (by simp) (.slice s7 (gs.length + 1) c7)).setCell (p := ⟨A + 1, 3, none⟩) (by simp) (.slice so lo co)
                have hne : (Value.slice s7 (gs.length + 1) c7).ownBlock ≠ some (A + 1) := by intro e; have := (own_blk H9.out.2.2.1 e).1; omega
                have hoZ := own_set_ne (own_set_ne (own_set_ne (own_set_ne (o := 0) H9.out.2.2.1 hne (.int .i64 inp)) (o := 1) hne (.slice sn ln cn)) (o := 2) hne (.slice s7 (gs.length + 1) c7)) (o := 3) hne (.slice so lo co)
                have hoA := own_base (base' := A) hoZ (by omega)
                clear hne hoZ hzz
                revert hZ hBZ hoA
                generalize ((((W9.setCell ⟨A + 1, 0, none⟩ (.int .i64 inp)).setCell ⟨A + 1, 1, none⟩ (.slice sn ln cn)).setCell ⟨A + 1, 2, none⟩ (.slice s7 (gs.length + 1) c7)).setCell ⟨A + 1, 3, none⟩ (.slice so lo co)) = WZ
                intro hZ hBZ hoA
                (try simp only [Act.put, zA, zB, zC])
                repeat (first | (refine ordt_s (o := ?_) ?_ ?_ ?_; rotate_left 1; (focus ((simp only [zD, zE, zF]) <;> rfl)); (focus rfl); simp only [Act.put, zA, zB, zC]) | (refine ordt_q (o := ?_) (v := ?_) ?_ ?_ ?_ ?_; rotate_left 2; (focus ((simp only [zD, zE, zF]) <;> rfl)); (focus rfl); (focus (intro w' hS; (try dsimp only at hS); go_split_ands; go_simp; (try (with_reducible rfl)))); simp only [Act.put, zA, zB, zC]))
                refine ordt_nil ?_
                go_wp2_with fail
                have cr := (blk_all hZ).1
                have e0 := HR.out
                rw [andK_new HN0.out HN1.out HFN.out, HFF.out] at e0
                have el : (gs ++ [(⟨a, b⟩ : Gt)]).length = gs.length + 1 := by simp
                exact bodyPost_ret (v := .tuple #[.agg #[.int .i64 inp, .slice sn ln cn, .slice s7 (gs.length + 1) c7, .slice so lo co], .int .i64 (2 * ((F : Int) + (gs.length : Int)))]) (by simp [results, Try.results85, go_sem, cr]) rfl ⟨_, by rw [e0], .inr (by rw [e0, ← HW.out.2.1]; show WZ.ownsRow A _ 2 _ (gs ++ [(⟨a, b⟩ : Gt)]).length _; rw [el]; exact hoA), by rw [← HW.out.2.1]; exact hBZ⟩
    · have HN0 : Hid (¬ (a = 0 ∨ (a = b - 1 ∧ a % 2 = 0))) := fun h => h.elim HX0.out (fun h => hx2 h.1)
      have c2 : (a == b - 1) = false := by simpa using hx2
      clear hx2
      by_cases hx4 : a = 1
      · have HX4 := Lib.hid hx4
        have c4 : (a == 1) = true := by simpa using hx4
        clear hx4
        have hBV := HB.out _ (Below.refl _ _)
        obtain ⟨rc, rf⟩ := blk_all hBV.2.2.1
        go_wp2_with fail
        have hZ : ((((W0.setCell ⟨A + 1, 0, none⟩ (.int .i64 inp)).setCell ⟨A + 1, 1, none⟩ (.slice sn ln cn)).setCell ⟨A + 1, 2, none⟩ (.slice sg gs.length cg)).setCell ⟨A + 1, 3, none⟩ (.slice so lo co)).heap[A + 1]? = some (.cells #[.int .i64 inp, .slice sn ln cn, .slice sg gs.length cg, .slice so lo co] 28 (0, 0)) := by
          simpa using blk_set (o := 3) (v := .slice so lo co) (blk_set (o := 2) (v := .slice sg gs.length cg) (blk_set (o := 1) (v := .slice sn ln cn) (blk_set (o := 0) (v := .int .i64 inp) hBV.2.2.1)))
        have hBZ := ((((hBV.2.2.2.2).setCell (p := ⟨A + 1, 0, none⟩) (by simp) (.int .i64 inp)).setCell (p := ⟨A + 1, 1, none⟩) (by simp) (.slice sn ln cn)).setCell (p := ⟨A + 1, 2, none⟩) (by simp) (.slice sg gs.length cg)).setCell (p := ⟨A + 1, 3, none⟩) (by simp) (.slice so lo co)
        clear rc rf
        revert hZ hBZ
        generalize ((((W0.setCell ⟨A + 1, 0, none⟩ (.int .i64 inp)).setCell ⟨A + 1, 1, none⟩ (.slice sn ln cn)).setCell ⟨A + 1, 2, none⟩ (.slice sg gs.length cg)).setCell ⟨A + 1, 3, none⟩ (.slice so lo co)) = WZ
        intro hZ hBZ
        have cr := (blk_all hZ).1
        have e0 := HR.out
        rw [andK_same HN0.out (.inl HX4.out)] at e0
        exact bodyPost_ret (v := .tuple #[.agg #[.int .i64 inp, .slice sn ln cn, .slice sg gs.length cg, .slice so lo co], .int .i64 b]) (by simp [results, Try.results85, go_sem, cr]) rfl ⟨_, by rw [e0], .inl ⟨rfl, by rw [e0]⟩, by rw [← HW.out.2.1]; exact hBZ⟩
      · by_cases hx5 : a = b
        · have HX4 := Lib.hid hx5
          have c4 : (a == 1) = false := by simpa using hx4
          have c5 : (a == b) = true := by simpa using hx5
          clear hx4 hx5
          have hBV := HB.out _ (Below.refl _ _)
          obtain ⟨rc, rf⟩ := blk_all hBV.2.2.1
          go_wp2_with fail
          have hZ : ((((W0.setCell ⟨A + 1, 0, none⟩ (.int .i64 inp)).setCell ⟨A + 1, 1, none⟩ (.slice sn ln cn)).setCell ⟨A + 1, 2, none⟩ (.slice sg gs.length cg)).setCell ⟨A + 1, 3, none⟩ (.slice so lo co)).heap[A + 1]? = some (.cells #[.int .i64 inp, .slice sn ln cn, .slice sg gs.length cg, .slice so lo co] 28 (0, 0)) := by
            simpa using blk_set (o := 3) (v := .slice so lo co) (blk_set (o := 2) (v := .slice sg gs.length cg) (blk_set (o := 1) (v := .slice sn ln cn) (blk_set (o := 0) (v := .int .i64 inp) hBV.2.2.1)))
          have hBZ := ((((hBV.2.2.2.2).setCell (p := ⟨A + 1, 0, none⟩) (by simp) (.int .i64 inp)).setCell (p := ⟨A + 1, 1, none⟩) (by simp) (.slice sn ln cn)).setCell (p := ⟨A + 1, 2, none⟩) (by simp) (.slice sg gs.length cg)).setCell (p := ⟨A + 1, 3, none⟩) (by simp) (.slice so lo co)
          clear rc rf
          revert hZ hBZ
          generalize ((((W0.setCell ⟨A + 1, 0, none⟩ (.int .i64 inp)).setCell ⟨A + 1, 1, none⟩ (.slice sn ln cn)).setCell ⟨A + 1, 2, none⟩ (.slice sg gs.length cg)).setCell ⟨A + 1, 3, none⟩ (.slice so lo co)) = WZ
          intro hZ hBZ
          have cr := (blk_all hZ).1
          have e0 := HR.out
          rw [andK_same HN0.out (.inr HX4.out)] at e0
          exact bodyPost_ret (v := .tuple #[.agg #[.int .i64 inp, .slice sn ln cn, .slice sg gs.length cg, .slice so lo co], .int .i64 b]) (by simp [results, Try.results85, go_sem, cr]) rfl ⟨_, by rw [e0], .inl ⟨rfl, by rw [e0]⟩, by rw [← HW.out.2.1]; exact hBZ⟩
        · have HN1 : Hid (¬ (a = 1 ∨ a = b)) := fun h => h.elim hx4 hx5
          have c4 : (a == 1) = false := by simpa using hx4
          have c5 : (a == b) = false := by simpa using hx5
          clear hx4 hx5
          obtain ⟨F, hF⟩ : ∃ F : Nat, 1 + inp + (ln : Int) = F := ⟨(1 + inp + (ln : Int)).toNat, by omega⟩
          have hF2 : F ≤ 21 := by omega
          have HFF := Lib.hid hF
          go_upto_region 11 with (go_at_call 44; ((with_reducible refine (l1First_any _ _ _ _ _ _ _ (by omega) (by omega)).mono ?_); rintro e w2 ⟨rfl, hq⟩; rw [HFF.out]; have H2 := Lib.hid hq; clear hq cb; have cb := (HB.out _ H2.out).1))
          clear hF
          go_loop [10] (fun s10 => ∃ i : Nat, i ≤ gs.length ∧ s10 = .int .i64 i ∧ ∀ j, j < i → gs[j]? ≠ some ⟨a, b⟩) (fun s10 => gs.length - (intOf s10).toNat)
          case atStart => exact ⟨0, Nat.zero_le _, rfl, fun j hj => by omega⟩
          case round =>
            obtain ⟨i, hi, rfl, hn⟩ := hrel
            have HNN := Lib.hid hn
            clear hn
            by_cases hlt : i < gs.length
            · obtain ⟨g, hg⟩ := get_of_lt hlt
              obtain ⟨bb, off, rfl, hbw, y1, y2⟩ := (HB.out _ (Below.refl _ _)).2.2.2.1.gate H2.out hg
              have HG := Lib.hid hg
              clear hg
              by_cases hga : g.a = a
              · have d1 : (g.a == a) = true := by simpa using hga
                have HGA := Lib.hid hga
                clear hga
                by_cases hgb : g.b = b
                · have d2 : (g.b == b) = true := by simpa using hgb
                  have HGB := Lib.hid hgb
                  clear hgb
                  have hfnd : fndG gs ⟨a, b⟩ 0 = some (0 + i) := fndG_some (by rw [HG.out]; congr 1; cases g; simp only [Gt.mk.injEq]; exact ⟨HGA.out, HGB.out⟩) HNN.out
                  rw [Nat.zero_add] at hfnd
                  have HFN := Lib.hid hfnd
                  clear hfnd
                  have hBV := HB.out _ H2.out
                  obtain ⟨rc, rf⟩ := blk_all hBV.2.2.1
                  go_wp2_with fail
                  have hZ : ((((w2.setCell ⟨A + 1, 0, none⟩ (.int .i64 inp)).setCell ⟨A + 1, 1, none⟩ (.slice sn ln cn)).setCell ⟨A + 1, 2, none⟩ (.slice (some ⟨bb, off, none⟩) gs.length cg)).setCell ⟨A + 1, 3, none⟩ (.slice so lo co)).heap[A + 1]? = some (.cells #[.int .i64 inp, .slice sn ln cn, .slice (some ⟨bb, off, none⟩) gs.length cg, .slice so lo co] 28 (0, 0)) := by
                    simpa using blk_set (o := 3) (v := .slice so lo co) (blk_set (o := 2) (v := .slice (some ⟨bb, off, none⟩) gs.length cg) (blk_set (o := 1) (v := .slice sn ln cn) (blk_set (o := 0) (v := .int .i64 inp) hBV.2.2.1)))
                  have hBZ := ((((hBV.2.2.2.2).setCell (p := ⟨A + 1, 0, none⟩) (by simp) (.int .i64 inp)).setCell (p := ⟨A + 1, 1, none⟩) (by simp) (.slice sn ln cn)).setCell (p := ⟨A + 1, 2, none⟩) (by simp) (.slice (some ⟨bb, off, none⟩) gs.length cg)).setCell (p := ⟨A + 1, 3, none⟩) (by simp) (.slice so lo co)
                  clear rc rf
                  revert hZ hBZ
                  generalize ((((w2.setCell ⟨A + 1, 0, none⟩ (.int .i64 inp)).setCell ⟨A + 1, 1, none⟩ (.slice sn ln cn)).setCell ⟨A + 1, 2, none⟩ (.slice (some ⟨bb, off, none⟩) gs.length cg)).setCell ⟨A + 1, 3, none⟩ (.slice so lo co)) = WZ
                  intro hZ hBZ
                  have cr := (blk_all hZ).1
                  have e0 := HR.out
                  rw [andK_old HN0.out HN1.out HFN.out, HFF.out] at e0
                  exact bodyPost_ret (v := .tuple #[.agg #[.int .i64 inp, .slice sn ln cn, .slice (some ⟨bb, off, none⟩) gs.length cg, .slice so lo co], .int .i64 (2 * ((F : Int) + (i : Int)))]) (by simp [results, Try.results85, go_sem, cr]) rfl ⟨_, by rw [e0], .inl ⟨rfl, by rw [e0]⟩, by rw [← HW.out.2.1]; exact hBZ⟩
                · have d2 : (g.b == b) = false := by simpa using hgb
                  go_wp2_with fail
                  go_round
                  case rel => exact ⟨i + 1, by omega, by go_num, fun j hj e => by
                    by_cases e2 : j = i
                    · subst e2; rw [HG.out] at e; cases e; exact hgb rfl
                    · exact HNN.out j (by omega) e⟩
                  case measure => simp [intOf]; omega
              · have d1 : (g.a == a) = false := by simpa using hga
                go_wp2_with fail
                go_round
                case rel => exact ⟨i + 1, by omega, by go_num, fun j hj e => by
                  by_cases e2 : j = i
                  · subst e2; rw [HG.out] at e; cases e; exact hga rfl
                  · exact HNN.out j (by omega) e⟩
                case measure => simp [intOf]; omega
            · obtain rfl : i = gs.length := by omega
              have hfnd : fndG gs ⟨a, b⟩ 0 = none := fndG_none HNN.out
              have HFN := Lib.hid hfnd
              clear hfnd
              have g1 := (HB.out _ H2.out)
              have hal := H2.out.alloc H2.out.size (.cells #[] 24)
              have hown0 : World.ownsRow (w2.alloc (.cells #[] 24)) W0.heap.size 24 2 (.slice (some ⟨w2.heap.size, 0, none⟩) 0 0) 0 [] := own_of_blk (size := 2) (n := 0) (cur := #[]) (blk_new w2 _) H2.out.size (by simp) (by unfold maxLen; omega)
              have HO0 := Lib.hid (And.intro hown0 (And.intro (HB.out _ hal).2.2.2.1 hal))
              clear hown0 hal g1
              have hsA : A < w2.heap.size := by have h1 := H2.out.size; have h2 := HW.out.2.2.1; omega
              go_upto_region 16 with (first
                | (at_builtin; refine wpl_app rfl _ _ rfl elem_gate HO0.out.1 rfl rfl (by rw [gcells_length]; omega) HO0.out.2.1 (gcells_one _) gs.length (by omega) (gcells gs) (by simp) (by unfold maxLen; omega) (by omega) HO0.out.2.2.size ?_; intro s6 c6 w6 h6 hb6 hg6 hob6; have H6 := Lib.hid (And.intro h6 (HO0.out.2.2.trans hb6)); clear h6 hb6 hg6 hob6)
                | (at_builtin; refine wpl_app rfl _ _ rfl elem_gate (own_below H6.out.1 ((Below.refl w6.heap.size w6).alloc (Nat.le_refl _) _)) rfl rfl (by simp) (Sl.new _ _ _) (by simp [Value.oneCell']) (gs.length + 1) rfl (gcells (gs ++ [⟨a, b⟩])) (by rw [← gcells_append]; rfl) (by unfold maxLen; omega) (by omega) (H6.out.2.alloc H6.out.2.size _).size ?_; intro s7 c7 w7 h7 hb7 hg7 hob7; have H7 := Lib.hid (And.intro h7 ((H6.out.2.alloc H6.out.2.size _).trans hb7)); clear h7 hb7 hg7 hob7; obtain ⟨rc, rf⟩ := blk_all (HB.out _ H7.out.2).2.1))
              have k1 := (HB.out _ H7.out.2).2.1
              have k2 := (HB.out _ H7.out.2).2.2.1
              have hA8 : (w7.setCell ⟨A, 2, none⟩ (.slice s7 (gs.length + 1) c7)).heap[A]? = some (.cells #[.int .i64 inp, .slice sn ln cn, .slice s7 (gs.length + 1) c7, .slice so lo co] 28 (0, 0)) := by
                simpa using blk_set (o := 2) (v := .slice s7 (gs.length + 1) c7) k1
              have hR8 : (w7.setCell ⟨A, 2, none⟩ (.slice s7 (gs.length + 1) c7)).heap[A + 1]? = some (.cells #[.int .i64 0, .slice none 0 0, .slice none 0 0, .slice none 0 0] 28 (0, 0)) := blk_set_ne (o := 2) (v := .slice s7 (gs.length + 1) c7) (by omega) k2
              have hzz := HW.out.2.2.1
              have hown8 := own_set_ne (b := A) (o := 2) H7.out.1 (by intro e; have := (own_blk H7.out.1 e).1; omega) (.slice s7 (gs.length + 1) c7)
              have hB8 := ((HB.out _ H7.out.2).2.2.2.2).setCell (p := ⟨A, 2, none⟩) (by simp) (.slice s7 (gs.length + 1) c7)
              clear rc rf k1 k2 hzz cb
              revert hA8 hR8 hown8 hB8
              generalize w7.setCell ⟨A, 2, none⟩ (.slice s7 (gs.length + 1) c7) = W8
              intro hA8 hR8 hown8 hB8
              have wa : IntKind.i64.wrap ((F : Int) + ((gs.length : Int) + 1)) = (F : Int) + ((gs.length : Int) + 1) := IntWalk.i64_in _ ⟨by omega, by omega⟩
              have wb : IntKind.i64.wrap ((F : Int) + ((gs.length : Int) + 1) - 1) = (F : Int) + (gs.length : Int) := by rw [IntWalk.i64_in _ ⟨by omega, by omega⟩]; omega
              have wc : IntKind.i64.wrap (2 * ((F : Int) + (gs.length : Int))) = 2 * ((F : Int) + (gs.length : Int)) := IntWalk.i64_in _ ⟨by omega, by omega⟩
              refine wp_region_T (fun w' => ∀ o, w'.cell? ⟨A, o, none⟩ = #[Value.int .i64 inp, .slice sn ln cn, .slice s7 (gs.length + 1) c7, .slice so lo co][o]?) (.q 0 (.q 1 (.q 2 (.q 3 (.q 4 (.q 5 (.q 6 (.q 7 (.e 8 (.q 9 .nil)))))))))) (by kernel_rfl) (by kernel_rfl) (by kernel_rfl) (blk_all (blk_below (Below.refl W8.heap.size W8).drew (blk_lt hA8) hA8)).1 ?_
              have hd := (Below.refl W8.heap.size W8).drew
              have h9 := And.intro (blk_below hd (blk_lt hA8) hA8) (And.intro (blk_below hd (blk_lt hR8) hR8) (And.intro (own_below hown8 hd) (hB8.trans (hd.mono (Nat.le_of_lt (blk_lt hA8))))))
              clear hA8 hR8 hown8 hB8 hd
              revert h9
              generalize W8.drew = W9
              intro h9
              have H9 := Lib.hid h9
              clear h9
              repeat (first | (refine ordt_s (o := ?_) ?_ ?_ ?_; rotate_left 1; (focus ((simp only [zD, zE, zF]) <;> rfl)); (focus rfl); simp only [Act.put, zA, zB, zC]) | (refine ordt_q (o := ?_) (v := ?_) ?_ ?_ ?_ ?_; rotate_left 2; (focus ((simp only [zD, zE, zF]) <;> rfl)); (focus rfl); (focus (intro w' hS; (try dsimp only at hS); go_split_ands; go_simp; (try (with_reducible rfl)))); simp only [Act.put, zA, zB, zC]))
              obtain ⟨rc, rf⟩ := blk_all H9.out.2.1
              refine ordt_e ?_
              (refine op_e (o := ?_) ?_ ?_ (fun K hK => ?_); rotate_left 1; (focus ((simp only [zD, zE, zF]) <;> rfl)); (focus rfl); go_simp)
              have hAZ := blk_set_ne (c := A + 1) (o := 3) (v := .slice so lo co) (show A + 1 ≠ A by omega) (blk_set_ne (c := A + 1) (o := 2) (v := .slice s7 (gs.length + 1) c7) (show A + 1 ≠ A by omega) (blk_set_ne (c := A + 1) (o := 1) (v := .slice sn ln cn) (show A + 1 ≠ A by omega) (blk_set_ne (c := A + 1) (o := 0) (v := .int .i64 inp) (show A + 1 ≠ A by omega) H9.out.1)))
              refine hK.out _ _ (blk_all hAZ).1 ?_
              clear hK K hAZ rc rf
              have hZ : ((((W9.setCell ⟨A + 1, 0, none⟩ (.int .i64 inp)).setCell ⟨A + 1, 1, none⟩ (.slice sn ln cn)).setCell ⟨A + 1, 2, none⟩ (.slice s7 (gs.length + 1) c7)).setCell ⟨A + 1, 3, none⟩ (.slice so lo co)).heap[A + 1]? = some (.cells #[.int .i64 inp, .slice sn ln cn, .slice s7 (gs.length + 1) c7, .slice so lo co] 28 (0, 0)) := by
                simpa using blk_set (o := 3) (v := .slice so lo co) (blk_set (o := 2) (v := .slice s7 (gs.length + 1) c7) (blk_set (o := 1) (v := .slice sn ln cn) (blk_set (o := 0) (v := .int .i64 inp) H9.out.2.1)))
              have hzz := HW.out.2.2.1
              have hBZ := ((((H9.out.2.2.2).setCell (p := ⟨A + 1, 0, none⟩) (by simp) (.int .i64 inp)).setCell (p := ⟨A + 1, 1, none⟩) (by simp) (.slice sn ln cn)).setCell (p := ⟨A + 1, 2, none⟩) (by simp) (.slice s7 (gs.length + 1) c7)).setCell (p := ⟨A + 1, 3, none⟩) (by simp) (.slice so lo co)
              have hne : (Value.slice s7 (gs.length + 1) c7).ownBlock ≠ some (A + 1) := by intro e; have := (own_blk H9.out.2.2.1 e).1; omega
              have hoZ := own_set_ne (own_set_ne (own_set_ne (own_set_ne (o := 0) H9.out.2.2.1 hne (.int .i64 inp)) (o := 1) hne (.slice sn ln cn)) (o := 2) hne (.slice s7 (gs.length + 1) c7)) (o := 3) hne (.slice so lo co)
              have hoA := own_base (base' := A) hoZ (by omega)
              clear hne hoZ hzz
              revert hZ hBZ hoA
              generalize ((((W9.setCell ⟨A + 1, 0, none⟩ (.int .i64 inp)).setCell ⟨A + 1, 1, none⟩ (.slice sn ln cn)).setCell ⟨A + 1, 2, none⟩ (.slice s7 (gs.length + 1) c7)).setCell ⟨A + 1, 3, none⟩ (.slice so lo co)) = WZ
              intro hZ hBZ hoA
              (try simp only [Act.put, zA, zB, zC])
              repeat (first | (refine ordt_s (o := ?_) ?_ ?_ ?_; rotate_left 1; (focus ((simp only [zD, zE, zF]) <;> rfl)); (focus rfl); simp only [Act.put, zA, zB, zC]) | (refine ordt_q (o := ?_) (v := ?_) ?_ ?_ ?_ ?_; rotate_left 2; (focus ((simp only [zD, zE, zF]) <;> rfl)); (focus rfl); (focus (intro w' hS; (try dsimp only at hS); go_split_ands; go_simp; (try (with_reducible rfl)))); simp only [Act.put, zA, zB, zC]))
              refine ordt_nil ?_
              go_wp2_with fail
              have cr := (blk_all hZ).1
              have e0 := HR.out
              rw [andK_new HN0.out HN1.out HFN.out, HFF.out] at e0
              have el : (gs ++ [(⟨a, b⟩ : Gt)]).length = gs.length + 1 := by simp
              exact bodyPost_ret (v := .tuple #[.agg #[.int .i64 inp, .slice sn ln cn, .slice s7 (gs.length + 1) c7, .slice so lo co], .int .i64 (2 * ((F : Int) + (gs.length : Int)))]) (by simp [results, Try.results85, go_sem, cr]) rfl ⟨_, by rw [e0], .inr (by rw [e0, ← HW.out.2.1]; show WZ.ownsRow A _ 2 _ (gs ++ [(⟨a, b⟩ : Gt)]).length _; rw [el]; exact hoA), by rw [← HW.out.2.1]; exact hBZ⟩

theorem l3And_any (inp : Int) (sn sg so : Option Addr) (ln cn cg lo co : Nat) (gs : List Gt) (a b : Int) (w : World) (h : Sl w sg (gcells gs)) (hg : gs.length ≤ 130) (hi : 0 ≤ inp ∧ inp ≤ 10) (hn : ln ≤ 10) (ha : 0 ≤ a ∧ a ≤ 300) (hb : 0 ≤ b ∧ b ≤ 300) :
    Calls Try.prog 85 #[.agg #[.int .i64 inp, .slice sn ln cn, .slice sg gs.length cg, .slice so lo co], .int .i64 a, .int .i64 b] w
      (AnPost inp (.slice sn ln cn) (.slice so lo co) sg cg gs (andL (1 + inp + ln) gs a b) w) := by
  by_cases hab : b < a
  · exact l3And_lt inp sn sg so ln cn cg lo co gs a b w h hg hi hn ha hb hab
  · exact l3And_ge inp sn sg so ln cn cg lo co gs a b w h hg hi hn ha hb hab

end Go.Proofs.Ytjecchljhdfjdaa
