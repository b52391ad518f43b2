import Derived.Test.YtbcolcchchgldaaZZ61DT
namespace Go.Proofs.Ytbcolcchchgldaa
set_option linter.unusedVariables false
set_option linter.unusedSimpArgs false
open Go.RowKit

/-! Part of the proof of one law. -/

set_option maxRecDepth 100000 in
set_option maxHeartbeats 12800000 in
theorem RemoveLatches_s (v : Value) (c : Cir) (w : World) (h : CirV w v c) :
    Calls Try.prog 54 #[v] w fun e w' => ∃ vn vg vo, e = .returned (.agg #[.int .i64 (rmR c).inp, vn, vg, vo]) ∧ CirOwn w' w.heap.size (rmR c) vn vg vo ∧ Below w.heap.size w w' := by
  have HG := Lib.hid h
  obtain ⟨sn, cn, sg, cg, so, co, rfl, h1, h2, h3, -, -, -⟩ := h
  have HSL : Hid (∀ W, Below w.heap.size w W → Sl W sn (ints c.next) ∧ Sl W sg (gcells c.gates) ∧ Sl W so (ints c.outs)) := fun W hW => ⟨h1.mono hW, h2.mono hW, h3.mono hW⟩
  clear h1 h2 h3
  obtain ⟨W0, hW0⟩ : ∃ W0, W0 = (w.alloc (.cells #[.int .i64 c.inp, .slice sn c.next.length cn, .slice sg c.gates.length cg, .slice so c.outs.length co] 26)).alloc (.cells #[.int .i64 0, .slice none 0 0, .slice none 0 0, .slice none 0 0] 26) := ⟨_, rfl⟩
  obtain ⟨A, hA⟩ : ∃ A, A = w.heap.size := ⟨_, rfl⟩
  have z1 : W0.heap.size = A + 2 := by rw [hW0, hA]; simp
  have z2 : W0.heap[A]? = some (.cells #[.int .i64 c.inp, .slice sn c.next.length cn, .slice sg c.gates.length cg, .slice so c.outs.length co] 26 (0, 0)) := by rw [hW0, hA]; exact blk_old (blk_new w _)
  have z3 : W0.heap[A + 1]? = some (.cells #[.int .i64 0, .slice none 0 0, .slice none 0 0, .slice none 0 0] 26 (0, 0)) := by rw [hW0, hA]; exact blk_at (by simp)
  have z4 : Below w.heap.size w W0 := by rw [hW0]; exact ((Below.refl _ _).alloc (Nat.le_refl _) _).alloc (by simp) _
  have HW := Lib.hid (And.intro hW0 (And.intro hA z1))
  have HB : Hid (∀ W, Below W0.heap.size W0 W → (∀ o, W.cell? ⟨A, o, none⟩ = #[Value.int .i64 c.inp, .slice sn c.next.length cn, .slice sg c.gates.length cg, .slice so c.outs.length co][o]?) ∧ W.heap[A + 1]? = some (.cells #[.int .i64 0, .slice none 0 0, .slice none 0 0, .slice none 0 0] 26 (0, 0)) ∧ CirV W (.agg #[.int .i64 c.inp, .slice sn c.next.length cn, .slice sg c.gates.length cg, .slice so c.outs.length co]) c ∧ Below w.heap.size w W) := fun W hW => ⟨(blk_all (blk_below hW (by omega) z2)).1, blk_below hW (by omega) z3, HG.out.mono (z4.trans (hW.mono z4.size)), z4.trans (hW.mono z4.size)⟩
  have HXA : Hid (∀ W, Below W0.heap.size W0 W → W.heap[A]? = some (.cells #[.int .i64 c.inp, .slice sn c.next.length cn, .slice sg c.gates.length cg, .slice so c.outs.length co] 26 (0, 0))) := fun W hW => blk_below hW (by omega) z2
  clear hW0 hA z1 z2 z3 z4
  cases hv : c.validB
  · rw [rmR_no hv]
    have HV := Lib.hid hv
    clear hv
    go_enter Try.func54, Try.ntmps54
    go_upto_region 1 with fail
    rw [← HW.out.1, ← HW.out.2.1]
    have cb := (HB.out _ (Below.refl _ _)).1
    go_upto_region 2 with (go_at_call 42; ((with_reducible refine (CircuitValid_s _ c _ (HB.out _ (Below.refl _ _)).2.2.1).mono ?_); rintro e w1 ⟨rfl, hq⟩; rw [HV.out]; have H1 := Lib.hid hq; clear hq cb; obtain ⟨rc, rf⟩ := blk_all (HB.out _ H1.out).2.1))
    go_wp2_with fail
    have hZ : ((((w1.setCell ⟨A + 1, 0, none⟩ (.int .i64 0)).setCell ⟨A + 1, 1, none⟩ (.slice none 0 0)).setCell ⟨A + 1, 2, none⟩ (.slice none 0 0)).setCell ⟨A + 1, 3, none⟩ (.slice none 0 0)).heap[A + 1]? = some (.cells #[.int .i64 0, .slice none 0 0, .slice none 0 0, .slice none 0 0] 26 (0, 0)) := by
      simpa using blk_set (o := 3) (v := .slice none 0 0) (blk_set (o := 2) (v := .slice none 0 0) (blk_set (o := 1) (v := .slice none 0 0) (blk_set (o := 0) (v := .int .i64 0) (HB.out _ H1.out).2.1)))
    have hA2 := HW.out.2.1
    have hbz := ((((HB.out _ H1.out).2.2.2.setCell (p := ⟨A + 1, 0, none⟩) (by simp; omega) (.int .i64 0)).setCell (p := ⟨A + 1, 1, none⟩) (by simp; omega) (.slice none 0 0)).setCell (p := ⟨A + 1, 2, none⟩) (by simp; omega) (.slice none 0 0)).setCell (p := ⟨A + 1, 3, none⟩) (by simp; omega) (.slice none 0 0)
    clear rc rf
    revert hZ hbz
    generalize ((((w1.setCell ⟨A + 1, 0, none⟩ (.int .i64 0)).setCell ⟨A + 1, 1, none⟩ (.slice none 0 0)).setCell ⟨A + 1, 2, none⟩ (.slice none 0 0)).setCell ⟨A + 1, 3, none⟩ (.slice none 0 0)) = WZ
    intro hZ hbz
    have cr := (blk_all hZ).1
    exact bodyPost_ret (v := .agg #[.int .i64 0, .slice none 0 0, .slice none 0 0, .slice none 0 0]) (by simp [results, Try.results54, go_sem, cr]) rfl ⟨_, _, _, rfl, ⟨World.ownsRow_nil _ _ _ _, World.ownsRow_nil _ _ _ _, World.ownsRow_nil _ _ _ _, fun k h => by simp [Value.ownBlock] at h, by simp, by simp, by simp⟩, hbz⟩
  · rw [rmR_yes hv]
    have HV := Lib.hid hv
    have hval := c.validB_iff.1 hv
    obtain ⟨i0, i1, l1, l2, l3⟩ := id hval.lim
    obtain ⟨ni, hni⟩ : ∃ ni : Nat, c.inp = ni := ⟨c.inp.toNat, by omega⟩
    have n4 : ni ≤ 4 := by omega
    obtain ⟨V, hV⟩ : ∃ V : Nat, c.vars = V := ⟨c.vars.toNat, by unfold Cir.vars; omega⟩
    obtain ⟨F, hF⟩ : ∃ F : Nat, F = 1 + ni + c.next.length := ⟨_, rfl⟩
    have hVF : V = F + c.gates.length := by unfold Cir.vars at hV; omega
    have HU0 : Hid (∀ W, Below W0.heap.size W0 W → Calls Try.prog 110 #[.agg #[.int .i64 ni, .slice sn c.next.length cn, .slice sg c.gates.length cg, .slice so c.outs.length co]] W fun e w' => ∃ s, e = .returned (.slice s V V) ∧ Sl w' s (bools (usedW c)) ∧ Below W.heap.size W w') := fun W hW => by
      have h9 := l20Used_any _ c W (HB.out W hW).2.2.1 hval
      rw [show c.vars.toNat = V by omega, hni] at h9
      exact h9
    have HN := Lib.hid (And.intro hni (And.intro hV (And.intro hF (And.intro hVF hval))))
    obtain ⟨kn, hkn⟩ : ∃ kn, kn = kpW c c.next.length := ⟨_, rfl⟩
    have kn3 : kn ≤ c.next.length := by rw [hkn]; exact kpW_le _ _
    have HKN := Lib.hid hkn
    have f8 : F ≤ 8 := by omega
    have v22 : V ≤ 22 := by omega
    rw [hni] at HW HB HXA HG
    have eopt : (optC (rmC c)).inp = ni := by rw [← hni]; rfl
    clear hv hval hV hF hVF hkn i0 i1
    rw [hni]
    clear hni
    go_enter Try.func54, Try.ntmps54
    go_upto_region 1 with fail
    rw [← HW.out.1, ← HW.out.2.1]
    have cb := (HB.out _ (Below.refl _ _)).1
    go_upto_region 3 with (go_at_call 42; ((with_reducible refine (CircuitValid_s _ c _ (HB.out _ (Below.refl _ _)).2.2.1).mono ?_); rintro e w1 ⟨rfl, hq⟩; rw [HV.out]; have H1 := Lib.hid hq; clear hq cb; have cb := (HB.out _ H1.out).1))
    go_upto_region 4 with (go_at_call 110; ((with_reducible refine (HU0.out _ H1.out).mono ?_); rintro e w2 ⟨su, rfl, hu, hq⟩; have H2 := Lib.hid (And.intro hu (H1.out.trans (hq.mono H1.out.size))); clear hu hq cb))
    obtain ⟨B, hB⟩ : ∃ B, B = w2.heap.size := ⟨_, rfl⟩
    have kG := blk_new w2 (.cells #[] 3)
    have bG := (Below.refl w2.heap.size w2).alloc (Nat.le_refl _) (.cells #[] 3)
    have oG : (w2.alloc (.cells #[] 3)).ownsRow w2.heap.size 3 1 (.slice (some ⟨w2.heap.size, 0, none⟩) 0 0) 0 [] := own_of_blk (n := 0) (cur := #[]) (blk_new _ _) (Nat.le_refl _) (by simp) (by unfold maxLen; omega)
    go_upto_region 6 with fail
    rw [← hB]
    rw [← hB] at bG oG
    have hBs : Hid (W0.heap.size ≤ B ∧ A + 1 < B) := by
      have h1 := HW.out.2.2
      have h2 := H2.out.2.size
      exact ⟨by omega, by omega⟩
    have HSU := Lib.hid (show ∀ W, Below B w2 W → Sl W su (bools (usedW c)) from fun W hW => H2.out.1.mono (by rw [← hB]; exact hW))
    have H2b := Lib.hid H2.out.2
    clear kG hB H2
    revert bG oG
    generalize w2.alloc (.cells #[] 3) = W3
    intro bG oG
    have H3 := Lib.hid (And.intro bG oG)
    have hB3 : B ≤ W3.heap.size := Nat.le_of_lt (by have := (own_blk oG rfl).2; exact this)
    clear bG oG
    have HX : Hid (∀ W, Below B W3 W → ((∀ o, W.cell? ⟨A, o, none⟩ = #[Value.int .i64 ni, .slice sn c.next.length cn, .slice sg c.gates.length cg, .slice so c.outs.length co][o]?) ∧ Sl W su (bools (usedW c))) ∧ Below W0.heap.size W0 W ∧ A + 1 < B) := fun W hW => by
      have h1 : Below B w2 W := H3.out.1.trans hW
      have h2 := H2b.out.trans (h1.mono hBs.out.1)
      exact ⟨⟨(HB.out W h2).1, HSU.out W h1⟩, h2, hBs.out.2⟩
    have HSW : Hid (∀ W, Below B W3 W → Sl W sn (ints c.next) ∧ Sl W sg (gcells c.gates) ∧ Sl W so (ints c.outs)) := fun W hW => HSL.out _ (HB.out _ (HX.out W hW).2.1).2.2.2
    go_loopw [5, 4] (fun i x wr => ∃ (k : Nat) (s : Option Addr) (cc : Nat), k ≤ 1 + ni ∧ i = .int .i64 k ∧ x = .slice s k cc ∧ wr.ownsRow B 3 1 x k (ints (mW c k)) ∧ Below B W3 wr) (fun i _ _ => 1 + ni - (intOf i).toNat)
    case atStart => exact ⟨0, _, _, Nat.zero_le _, rfl, rfl, H3.out.2, Below.refl _ _⟩
    case round =>
      obtain ⟨k, s, cc, hk, rfl, rfl, ho, hbl⟩ := hrel
      have cb := (HX.out _ hbl).1.1
      have hsz : B ≤ wr.heap.size := Nat.le_trans hB3 hbl.size
      by_cases hlt : k < 1 + ni
      · have hle : (k : Int) ≤ (ni : Int) := by omega
        have hpl : plW c k = k := by unfold plW; rw [if_pos (by have := HN.out.1; omega)]
        have HR := Lib.hid (And.intro ho (And.intro hbl hpl))
        clear ho hbl hpl
        go_wp2_with (at_builtin; refine wpl_app rfl _ _ rfl elem_int (own_below HR.out.1 ((Below.refl _ _).alloc (Nat.le_refl _) _)) rfl rfl rfl (Sl.new _ _ _) (by simp [Value.oneCell']) (k + 1) rfl (ints (mW c (k + 1))) (by rw [mW_succ, HR.out.2.2, ← ints_append]; rfl) (by unfold maxLen; omega) (by omega) (by simp; omega) ?_; intro s6 c6 w6 h6 hb6 _ _; have HA6 := Lib.hid (And.intro h6 ((HR.out.2.1.alloc hsz _).trans hb6)); clear h6 hb6)
        go_roundw
        case rel => exact ⟨k + 1, s6, c6, by omega, by go_num, rfl, HA6.out.1, HA6.out.2⟩
        case measure => simp [intOf]; omega
      · obtain rfl : k = 1 + ni := by omega
        have hgt : ¬ (((1 + ni : Nat) : Int) ≤ (ni : Int)) := by omega
        obtain ⟨X, hX⟩ : ∃ X, X = wr.heap.size := ⟨_, rfl⟩
        have hb3 := (Below.refl wr.heap.size wr).alloc (Nat.le_refl _) (.cells #[.int .i64 ni, .slice none 0 0, .slice none 0 0, .slice none 0 0] 26)
        have hx3 := blk_new wr (.cells #[.int .i64 ni, .slice none 0 0, .slice none 0 0, .slice none 0 0] 26)
        have ho3 := own_below ho hb3
        have hbl3 := hbl.trans (hb3.mono hsz)
        have hXB : B ≤ X := by omega
        rw [← hX] at hx3
        clear ho hbl hb3
        go_upto_region 12 with fail
        clear cb
        rw [← hX]
        clear hX
        revert hx3 ho3 hbl3
        generalize wr.alloc (.cells #[.int .i64 ni, .slice none 0 0, .slice none 0 0, .slice none 0 0] 26) = W4
        intro hx3 ho3 hbl3
        have H4 := Lib.hid (And.intro hx3 (And.intro ho3 hbl3))
        clear hx3 ho3 hbl3
        go_loopw [8, 7, 4] (fun i kp x wr => ∃ (k : Nat) (s : Option Addr) (cc : Nat), k ≤ c.next.length ∧ i = .int .i64 k ∧ kp = .int .i64 (kpW c k) ∧ x = .slice s (1 + ni + k) cc ∧ wr.ownsRow B 3 1 x (1 + ni + k) (ints (mW c (1 + ni + k))) ∧ wr.heap[X]? = some (.cells #[.int .i64 ni, .slice none 0 0, .slice none 0 0, .slice none 0 0] 26 (0, 0)) ∧ Below B W3 wr) (fun i _ _ _ => c.next.length - (intOf i).toNat)
        case atStart => exact ⟨0, s, cc, Nat.zero_le _, rfl, rfl, rfl, H4.out.2.1, H4.out.1, H4.out.2.2⟩
        case round =>
          obtain ⟨k, s, cc, hk, rfl, rfl, rfl, ho, hxb, hbl⟩ := hrel
          have cb := (HX.out _ hbl).1.1
          have hsz : B ≤ wr.heap.size := Nat.le_trans hB3 hbl.size
          by_cases hlt : k < c.next.length
          · obtain ⟨q, hq⟩ : ∃ q : Nat, (ni : Int) + 1 + (k : Int) = q := ⟨ni + 1 + k, by omega⟩
            have hqV : q < V := by have := HN.out.2.2.1; have := HN.out.2.2.2.1; omega
            obtain ⟨xb, hx⟩ := get_of_lt (l := usedW c) (k := q) (by rw [usedW_length]; have := HN.out.2.1; omega)
            obtain ⟨ub, uo, rfl, -, zu⟩ := (HX.out _ hbl).1.2.bool (Below.refl _ _) hx
            have hue : (usedW c).getD (1 + c.inp.toNat + k) false = xb := by
              rw [show 1 + c.inp.toNat + k = q by have := HN.out.1; omega, List.getD_eq_getElem?_getD, hx]; rfl
            have hkp := kpW_succ c k
            rw [hue] at hkp
            have hpl : plW c (1 + ni + k) = if xb = true then 1 + ni + kpW c k else 0 := by
              have h9 := HN.out.1
              have e : (usedW c).getD (1 + ni + k) false = xb := by rw [← hue, show 1 + c.inp.toNat + k = 1 + ni + k by omega]
              unfold plW
              rw [if_neg (by omega), if_pos (by omega), e, show 1 + c.inp.toNat = 1 + ni by omega, show 1 + ni + k - (1 + ni) = k by omega]
            obtain ⟨kp, hkpe⟩ : ∃ kp, kp = kpW c k := ⟨_, rfl⟩
            have hkp3 : kp ≤ 3 := by rw [hkpe]; have := kpW_le c k; omega
            rw [← hkpe] at hkp hpl ⊢
            have HR := Lib.hid (And.intro ho (And.intro hxb (And.intro hbl (And.intro hkp hpl))))
            have hv8 : 1 + ni + k ≤ 8 := by have := HN.out.2.2.1; omega
            clear ho hxb hbl hkp hpl hkpe hx hue
            cases xb
            · go_wp2_with (at_builtin; go_loud ((refine wpl_app rfl _ _ rfl elem_int (own_below HR.out.1 ((Below.refl _ _).alloc (Nat.le_refl _) _)) rfl rfl rfl (Sl.new _ _ _) (by simp [Value.oneCell']) (1 + ni + (k + 1)) (show 1 + ni + k + 1 = 1 + ni + (k + 1) from by omega) (ints (mW c (1 + ni + (k + 1)))) (by rw [show 1 + ni + (k + 1) = 1 + ni + k + 1 by omega, mW_succ, HR.out.2.2.2.2]; exact ints_snoc (by simp)) (by unfold maxLen; omega) (by omega) (by simp; omega) ?_); intro s6 c6 w6 h6 hb6 hg6 _; have hx7 := (Chg.of_grown hg6).blk (blk_old HR.out.2.1) (fun e => own_tyb HR.out.1 HR.out.2.1 (by decide) e); have HA6 := Lib.hid (And.intro h6 (And.intro hx7 ((HR.out.2.2.1.alloc hsz _).trans hb6))); clear hx7; clear h6 hb6 hg6))
              clear cb zu hq
              go_roundw
              case rel => exact ⟨k + 1, s6, c6, by omega, by go_num, by have := HR.out.2.2.2.1; simp at this; rw [this], rfl, HA6.out.1, HA6.out.2.1, HA6.out.2.2⟩
              case measure => simp [intOf]; omega
            · go_wp2_with (at_builtin; go_loud ((refine wpl_app rfl _ _ rfl elem_int (own_below HR.out.1 ((Below.refl _ _).alloc (Nat.le_refl _) _)) rfl rfl rfl (Sl.new _ _ _) (by simp [Value.oneCell']) (1 + ni + (k + 1)) (show 1 + ni + k + 1 = 1 + ni + (k + 1) from by omega) (ints (mW c (1 + ni + (k + 1)))) (by rw [show 1 + ni + (k + 1) = 1 + ni + k + 1 by omega, mW_succ, HR.out.2.2.2.2]; exact ints_snoc (by simp; omega)) (by unfold maxLen; omega) (by omega) (by simp; omega) ?_); intro s6 c6 w6 h6 hb6 hg6 _; have hx7 := (Chg.of_grown hg6).blk (blk_old HR.out.2.1) (fun e => own_tyb HR.out.1 HR.out.2.1 (by decide) e); have HA6 := Lib.hid (And.intro h6 (And.intro hx7 ((HR.out.2.2.1.alloc hsz _).trans hb6))); clear hx7; clear h6 hb6 hg6))
              clear cb zu hq
              go_roundw
              case rel => exact ⟨k + 1, s6, c6, by omega, by go_num, by have := HR.out.2.2.2.1; simp at this; rw [this]; go_num, rfl, HA6.out.1, HA6.out.2.1, HA6.out.2.2⟩
              case measure => simp [intOf]; omega
          · obtain rfl : k = c.next.length := by omega
            have HR2 := Lib.hid (And.intro ho (And.intro hxb hbl))
            rw [← HKN.out]
            have eF := HN.out.2.2.1
            have hF2 := HR2.out.1
            rw [← eF] at hF2
            rw [← eF]
            have HR3 := Lib.hid hF2
            clear ho hxb hbl hF2 eF
            go_upto_region 19 with fail
            clear cb
            go_loopw [9, 4] (fun i x wr => ∃ (k : Nat) (s : Option Addr) (cc : Nat) (s2 : Option Addr) (c2 : Nat), k ≤ c.gates.length ∧ i = .int .i64 k ∧ x = .slice s (F + k) cc ∧ wr.ownsRow B 3 1 x (F + k) (ints (mW c (F + k))) ∧ OutC wr B X ni [] (mapG (rmL c) (c.gates.take k)) [] (.slice none 0 0) (.slice s2 k c2) (.slice none 0 0) ∧ Below B W3 wr) (fun i _ _ => c.gates.length - (intOf i).toNat)
            case atStart => exact ⟨0, s, cc, _, _, Nat.zero_le _, rfl, rfl, HR3.out, ⟨HR2.out.2.1, World.ownsRow_nil _ _ _ _, World.ownsRow_nil _ _ _ _, World.ownsRow_nil _ _ _ _, fun k hk => by cases hk⟩, HR2.out.2.2⟩
            case round =>
              obtain ⟨k, s, cc, s2, c2, hk, rfl, rfl, ho, hO, hbl⟩ := hrel
              have cb := (HX.out _ hbl).1.1
              have hsz : B ≤ wr.heap.size := Nat.le_trans hB3 hbl.size
              have hlk : (mapG (rmL c) (c.gates.take k)).length = k := by simp [mapG]; omega
              have HXs : Hid (∀ W, Below wr.heap.size wr W → (∀ o, W.cell? ⟨A, o, none⟩ = #[Value.int .i64 ni, .slice sn c.next.length cn, .slice sg c.gates.length cg, .slice so c.outs.length co][o]?)) := fun W hW => (HX.out _ (hbl.trans (hW.mono hsz))).1.1
              by_cases hlt : k < c.gates.length
              · obtain ⟨g, hg⟩ := get_of_lt hlt
                have hcF : c.first = F := by have h1 := HN.out.1; have h2 := HN.out.2.2.1; unfold Cir.first; omega
                obtain ⟨⟨a0, a1⟩, b0, b1⟩ := valid_gate HN.out.2.2.2.2 hg
                rw [hcF] at a1 b1
                have hFk : F + k < V := by have := HN.out.2.2.2.1; omega
                have hga := rmL_bd (c := c) a0 (by omega)
                have hgb := rmL_bd (c := c) b0 (by omega)
                obtain ⟨ga, hgae⟩ : ∃ z, z = rmL c g.a := ⟨_, rfl⟩
                obtain ⟨gbb, hgbe⟩ : ∃ z, z = rmL c g.b := ⟨_, rfl⟩
                rw [← hgae] at hga
                rw [← hgbe] at hgb
                have hpl : plW c (F + k) = 1 + ni + kn + k := by
                  have h1 := HN.out.1; have h2 := HN.out.2.2.1; have h3 := HKN.out
                  unfold plW
                  rw [if_neg (by omega), if_neg (by omega)]
                  omega
                obtain ⟨gb, gf, rfl, hgbl, zx, zy⟩ := (HSW.out _ hbl).2.1.gate (Below.refl _ _) hg
                have HZ : Hid (∀ W, Below wr.heap.size wr W → W.cell? ⟨gb, gf + k * 2, none⟩ = some (.int .i64 g.a) ∧ W.cell? ⟨gb, gf + k * 2 + 1, none⟩ = some (.int .i64 g.b)) := fun W hW => ⟨(hW.cell (p := ⟨gb, gf + k * 2, none⟩) hgbl).trans zx, (hW.cell (p := ⟨gb, gf + k * 2 + 1, none⟩) hgbl).trans zy⟩
                have HR := Lib.hid (And.intro ho (And.intro hO (And.intro hbl (And.intro hpl (And.intro hg (And.intro hlk (And.intro hgae hgbe)))))))
                clear ho hO hbl hpl hg hlk hgae hgbe zx zy hgbl hcF
                go_upto_region 22 with (at_builtin; refine wpl_app rfl _ _ rfl elem_int (own_below HR.out.1 ((Below.refl _ _).alloc (Nat.le_refl _) _)) rfl rfl rfl (Sl.new _ _ _) (by simp [Value.oneCell']) (F + (k + 1)) (show F + k + 1 = F + (k + 1) from rfl) (ints (mW c (F + (k + 1)))) (by rw [show F + (k + 1) = F + k + 1 from rfl, mW_succ, HR.out.2.2.2.1]; exact ints_snoc (by simp; omega)) (by unfold maxLen; omega) (by omega) (by simp; omega) ?_; intro s6 c6 w6 h6 hb6 hg6 _; have H6a := Lib.hid (And.intro h6 (And.intro hb6 hg6)); clear h6 hb6 hg6)
                have hw6 := (HR.out.2.2.1.alloc hsz _).trans H6a.out.2.1
                have hO6 : OutC w6 B X ni [] (mapG (rmL c) (c.gates.take k)) [] (.slice none 0 0) (.slice s2 k c2) (.slice none 0 0) := ⟨(Chg.of_grown H6a.out.2.2).blk (blk_old HR.out.2.1.blk) (fun e => own_tyb HR.out.1 HR.out.2.1.blk (by decide) e), World.ownsRow_nil _ _ _ _, (Chg.of_grown H6a.out.2.2).own (own_below HR.out.2.1.g ((Below.refl _ _).alloc (Nat.le_refl _) _)) (fun k hk => own_ty HR.out.2.1.g HR.out.1 (by decide) hk), World.ownsRow_nil _ _ _ _, fun k hk => by cases hk⟩
                have H6 := Lib.hid (And.intro H6a.out.1 (And.intro hO6 (And.intro hw6 (And.intro trivial trivial))))
                clear hw6 hO6 H6a
                clear cb
                have HLM : Hid (∀ l : Int, 0 ≤ l → l / 2 < (F : Int) + k → Calls Try.prog 77 #[.slice s6 (F + (k + 1)) c6, .int .i64 l] w6.drew fun e w' => e = .returned (.int .i64 (rmL c l)) ∧ w6.drew = w') := fun l h0 h1 => by
                  have h9 := l3MapM_any s6 c6 (F + (k + 1)) (mW c (F + (k + 1))) l w6.drew (mW_length _ _) (own_sl H6.out.1).drew h0 (by omega) (by omega) (fun x hx => by have := mW_mem hx; omega)
                  rw [mW_map h0 (by omega)] at h9
                  exact h9
                have hxz : X < w6.heap.size := blk_lt H6.out.2.1.blk
                have hs6 : B ≤ w6.heap.size := Nat.le_trans hB3 H6.out.2.2.1.size
                have HSX : Hid (∀ W, Below B W3 W → W.heap[X]? = some (.cells #[Value.int .i64 ni, .slice none 0 0, .slice s2 k c2, .slice none 0 0] 26 (0, 0)) → (∀ o, W.cell? ⟨X, o, none⟩ = #[Value.int .i64 ni, .slice none 0 0, .slice s2 k c2, .slice none 0 0][o]?) ∧ (∀ o, W.cell? ⟨A, o, none⟩ = #[Value.int .i64 ni, .slice sn c.next.length cn, .slice (some ⟨gb, gf, none⟩) c.gates.length cg, .slice so c.outs.length co][o]?) ∧ W.cell? ⟨gb, gf + k * 2, none⟩ = some (.int .i64 g.a) ∧ W.cell? ⟨gb, gf + k * 2 + 1, none⟩ = some (.int .i64 g.b)) := fun W hW hx => ⟨(blk_all hx).1, (HX.out _ hW).1.1, by
                  obtain ⟨_, _, e1, -, q1, q2⟩ := (HSW.out _ hW).2.1.gate (Below.refl _ _) HR.out.2.2.2.2.1
                  cases e1; exact ⟨q1, q2⟩⟩
                refine wp_region_E (fun w' => (∀ o, w'.cell? ⟨X, o, none⟩ = #[Value.int .i64 ni, .slice none 0 0, .slice s2 k c2, .slice none 0 0][o]?) ∧ (∀ o, w'.cell? ⟨A, o, none⟩ = #[Value.int .i64 ni, .slice sn c.next.length cn, .slice (some ⟨gb, gf, none⟩) c.gates.length cg, .slice so c.outs.length co][o]?) ∧ w'.cell? ⟨gb, gf + k * 2, none⟩ = some (.int .i64 g.a) ∧ w'.cell? ⟨gb, gf + k * 2 + 1, none⟩ = some (.int .i64 g.b)) 22 (.q 0 (.q 1 (.q 2 (.q 3 (.q 4 (.q 5 (.q 6 (.q 7 (.q 8 (.q 10 (.q 11 (.q 12 (.q 13 (.q 14 (.q 15 (.q 16 (.e 9 (.e 17 (.q 18 (.e 19 (.e 20 (.q 21 (.z 22))))))))))))))))))))))) (by kernel_rfl) (by kernel_rfl) (by kernel_rfl) (by kernel_rfl) (by kernel_rfl) (by kernel_rfl) (HSX.out _ H6.out.2.2.1.drew H6.out.2.1.blk) ?_
                repeat (first | (refine orde_s (o := ?_) ?_ ?_ ?_; rotate_left 1; (focus ((simp only [zD, zE, zF]) <;> rfl)); (focus rfl); simp only [Act.put, zA, zB, zC]) | (refine orde_q (o := ?_) (v := ?_) ?_ ?_ ?_ ?_; rotate_left 2; (focus ((simp only [zD, zE, zF]) <;> rfl)); (focus rfl); (focus (intro w' hS; (try dsimp only at hS); go_split_ands; go_simp; (try (with_reducible rfl)))); simp only [Act.put, zA, zB, zC]))
                refine orde_e ?_
                (refine ope_e (o := ?_) ?_ ?_ (fun K hK => ?_); rotate_left 1; (focus ((simp only [zD, zE, zF]) <;> rfl)); (focus rfl); go_simp)
                refine (HLM.out g.a a0 (by omega)).mono ?_
                rintro e wa ⟨rfl, rfl⟩
                rw [← HR.out.2.2.2.2.2.2.1]
                refine hK.out _ _ (HSX.out _ H6.out.2.2.1.drew H6.out.2.1.blk) ?_
                clear hK K
                (try simp only [Act.put, zA, zB, zC])
                refine orde_e ?_
                (refine ope_e (o := ?_) ?_ ?_ (fun K hK => ?_); rotate_left 1; (focus ((simp only [zD, zE, zF]) <;> rfl)); (focus rfl); go_simp)
                refine (HLM.out g.b b0 (by omega)).mono ?_
                rintro e wa ⟨rfl, rfl⟩
                rw [← HR.out.2.2.2.2.2.2.2]
                refine hK.out _ _ (HSX.out _ H6.out.2.2.1.drew H6.out.2.1.blk) ?_
                clear hK K
                (try simp only [Act.put, zA, zB, zC])
                repeat (first | (refine orde_s (o := ?_) ?_ ?_ ?_; rotate_left 1; (focus ((simp only [zD, zE, zF]) <;> rfl)); (focus rfl); simp only [Act.put, zA, zB, zC]) | (refine orde_q (o := ?_) (v := ?_) ?_ ?_ ?_ ?_; rotate_left 2; (focus ((simp only [zD, zE, zF]) <;> rfl)); (focus rfl); (focus (intro w' hS; (try dsimp only at hS); go_split_ands; go_simp; (try (with_reducible rfl)))); simp only [Act.put, zA, zB, zC]))
                refine orde_e ?_
                (refine ope_e (o := ?_) ?_ ?_ (fun K hK => ?_); rotate_left 1; (focus ((simp only [zD, zE, zF]) <;> rfl)); (focus rfl); go_simp)
                have hb1 : Below w6.heap.size w6 (w6.alloc (.cells #[.int .i64 ga, .int .i64 gbb] 38)).drew := ((Below.refl _ _).alloc (Nat.le_refl _) _).drew
                have hs1 : Sl (w6.alloc (.cells #[.int .i64 ga, .int .i64 gbb] 38)).drew (some ⟨w6.heap.size, 0, none⟩) [.int .i64 ga, .int .i64 gbb] := (Sl.new w6 _ _).drew
                revert hb1 hs1
                generalize (w6.alloc (.cells #[.int .i64 ga, .int .i64 gbb] 38)).drew = W7
                intro hb1 hs1
                have hO1 := H6.out.2.1.below hb1
                have hB1 := H6.out.2.2.1.trans (hb1.mono hs6)
                refine hK.out _ _ (HSX.out _ hB1 hO1.blk) ?_
                clear hK K
                have H7 := Lib.hid (And.intro hO1 (And.intro hs1 (And.intro hB1 (own_below H6.out.1 hb1))))
                have hs1z : B ≤ W7.heap.size := Nat.le_trans hs6 hb1.size
                clear hO1 hb1 hs1 hB1
                (try simp only [Act.put, zA, zB, zC])
                refine orde_e ?_
                (refine ope_e (o := ?_) ?_ ?_ (fun K hK => ?_); rotate_left 1; (focus ((simp only [zD, zE, zF]) <;> rfl)); (focus rfl))
                refine wp_app (.tmp 81) (.tmp 99) rfl elem_gate (by have h1 := H7.out.1.g; rw [HR.out.2.2.2.2.2.1] at h1; exact h1) rfl rfl (by simp) H7.out.2.1 (by simp [Value.oneCell']) (k + 1) rfl (gcells (mapG (rmL c) (c.gates.take (k + 1)))) (by rw [mapG_snoc HR.out.2.2.2.2.1, ← gcells_append, ← HR.out.2.2.2.2.2.2.1, ← HR.out.2.2.2.2.2.2.2]; rfl) (by unfold maxLen; omega) (by omega) (by omega) ?_
                intro s7 c7 W8 ho8 hb8 hg8 hob8
                have hlk1 : (mapG (rmL c) (c.gates.take (k + 1))).length = k + 1 := by simp [mapG]; omega
                obtain ⟨hB2, hO2⟩ := H7.out.1.pushG hg8 (xg' := (mapG (rmL c) (c.gates.take (k + 1)))) (by rw [hlk1]; exact ho8)
                have hm8 := (Chg.of_grown hg8).own H7.out.2.2.2 (fun q hq => own_ty H7.out.2.2.2 H7.out.1.g (by decide) hq)
                have hm9 := own_set_ne (o := 2) hm8 (own_tyb hm8 hB2 (by decide)) (.slice s7 (k + 1) c7)
                have hbb := H7.out.2.2.1.trans hb8
                refine hK.out _ _ (HSX.out _ hbb hB2) ?_
                clear hK K
                have y1 : W8.cell? ⟨X, 2, none⟩ = some (.slice s2 k c2) := blk_cell hB2
                have y2 : W8.frozen? ⟨X, 2, none⟩ = false := blk_free hB2
                have H8 := Lib.hid (And.intro hO2 (And.intro hm9 (hbb.setCell (p := ⟨X, 2, none⟩) hXB (.slice s7 (k + 1) c7))))
                clear hB2 hO2 ho8 hb8 hg8 hob8 hbb hm8 hm9 hlk1
                (try simp only [Act.put, zA, zB, zC])
                repeat (first | (refine orde_s (o := ?_) ?_ ?_ ?_; rotate_left 1; (focus ((simp only [zD, zE, zF]) <;> rfl)); (focus rfl); simp only [Act.put, zA, zB, zC]) | (refine orde_q (o := ?_) (v := ?_) ?_ ?_ ?_ ?_; rotate_left 2; (focus ((simp only [zD, zE, zF]) <;> rfl)); (focus rfl); (focus (intro w' hS; (try dsimp only at hS); go_split_ands; go_simp; (try (with_reducible rfl)))); simp only [Act.put, zA, zB, zC]))
                (refine orde_z (o := ?_) ?_ ?_ (fun K hK => ?_); rotate_left 1; (focus ((simp only [zD, zE, zF]) <;> rfl)); (focus rfl); go_simp)
                refine hK.out _ _ ?_
                clear hK K y1 y2
                go_wp2_with fail
                go_roundw
                case rel => exact ⟨k + 1, s6, c6, s7, c7, by omega, by go_num, rfl, H8.out.2.1, H8.out.1, H8.out.2.2⟩
                case measure => simp [intOf]; omega
              · obtain rfl : k = c.gates.length := by omega
                obtain ⟨sM, rfl⟩ : ∃ sM, sM = s := ⟨_, rfl⟩
                obtain ⟨cM, rfl⟩ : ∃ cM, cM = cc := ⟨_, rfl⟩
                obtain ⟨Z, rfl⟩ : ∃ Z, Z = wr := ⟨_, rfl⟩
                obtain ⟨Y, hY⟩ : ∃ Y, Y = Z.heap.size := ⟨_, rfl⟩
                rw [List.take_length] at hO
                have hXY : X < Y := by rw [hY]; exact blk_lt hO.blk
                have hBY : B ≤ Y := by omega
                have HNX : Hid (∀ W, OneB X Y Z W → Below B W3 W) := fun W h => hbl.trans (h.below2 hXB hBY)
                have HMO : Hid (∀ W, OneB X Y Z W → W.ownsRow B 3 1 (.slice sM (F + c.gates.length) cM) (F + c.gates.length) (ints (mW c (F + c.gates.length)))) := fun W h => h.own ho (own_tyb ho hO.blk (by decide)) (fun k hk => by rw [hY]; exact (own_blk ho hk).2)
                have HGO : Hid (∀ W, OneB X Y Z W → W.ownsRow B 38 2 (.slice s2 c.gates.length c2) c.gates.length (gcells (mapG (rmL c) c.gates))) := fun W h => by
                  have h1 := h.own hO.g (own_tyb hO.g hO.blk (by decide)) (fun k hk => by rw [hY]; exact (own_blk hO.g hk).2)
                  have e : (mapG (rmL c) c.gates).length = c.gates.length := by simp [mapG]
                  rwa [e] at h1
                have HZ0 := Lib.hid (And.intro hO.blk (And.intro (World.ownsRow_nil Z Y 3 1) (OneB.refl (X := X) (Y := Y) (w := Z) (Nat.le_of_eq hY))))
                have HLM : Hid (∀ W, OneB X Y Z W → ∀ l : Int, 0 ≤ l → l / 2 < (F : Int) + c.gates.length → Calls Try.prog 77 #[.slice sM (F + c.gates.length) cM, .int .i64 l] W fun e w' => e = .returned (.int .i64 (rmL c l)) ∧ W = w') := fun W h l h0 h1 => by
                  have h9 := l3MapM_any sM cM (F + c.gates.length) (mW c (F + c.gates.length)) l W (mW_length _ _) (own_sl (HMO.out W h)) h0 (by omega) (by omega) (fun x hx => by have := mW_mem hx; omega)
                  rw [mW_map h0 (by omega)] at h9
                  exact h9
                clear ho hO hbl hY hlk
                go_wp2_with fail
                clear cb
                go_loopw [10] (fun i wr => ∃ (k : Nat) (s : Option Addr) (cc : Nat), k ≤ c.next.length ∧ i = .int .i64 k ∧ wr.heap[X]? = some (.cells #[.int .i64 ni, .slice s (kpW c k) cc, .slice s2 c.gates.length c2, .slice none 0 0] 26 (0, 0)) ∧ wr.ownsRow Y 3 1 (.slice s (kpW c k) cc) (kpW c k) (ints (nxW c k)) ∧ OneB X Y Z wr) (fun i _ => c.next.length - (intOf i).toNat)
                case atStart => exact ⟨0, _, _, Nat.zero_le _, rfl, HZ0.out.1, HZ0.out.2.1, HZ0.out.2.2⟩
                case round =>
                  obtain ⟨k, s, cc, hk, rfl, hxb, ho, hz⟩ := hrel
                  have cb := (HX.out _ (HNX.out _ hz)).1.1
                  by_cases hlt : k < c.next.length
                  · obtain ⟨q, hq⟩ : ∃ q : Nat, (ni : Int) + 1 + (k : Int) = q := ⟨ni + 1 + k, by omega⟩
                    have hqV : q < V := by have := HN.out.2.2.1; have := HN.out.2.2.2.1; omega
                    obtain ⟨ubit, hxu⟩ := get_of_lt (l := usedW c) (k := q) (by rw [usedW_length]; have := HN.out.2.1; omega)
                    obtain ⟨ub, uo, rfl, -, zu⟩ := (HX.out _ (HNX.out _ hz)).1.2.bool (Below.refl _ _) hxu
                    have hue : (usedW c).getD (1 + c.inp.toNat + k) false = ubit := by
                      rw [show 1 + c.inp.toNat + k = q by have := HN.out.1; omega, List.getD_eq_getElem?_getD, hxu]; rfl
                    obtain ⟨x, hx⟩ := get_of_lt hlt
                    have hkp := kpW_succ c k
                    have hnx := nxW_some hx
                    rw [hue] at hkp hnx
                    obtain ⟨xb, xf, rfl, hxbl, zx⟩ := (HSW.out _ (HNX.out _ hz)).1.int (Below.refl _ _) hx
                    obtain ⟨x0, x1⟩ : 0 ≤ x ∧ x / 2 < (F : Int) + c.gates.length := by
                      have h1 : 0 ≤ x ∧ x < 2 * c.vars := HN.out.2.2.2.2.next x (List.mem_of_getElem? hx)
                      have h2 := HN.out.2.1
                      have h3 := HN.out.2.2.2.1
                      omega
                    have hkk : kpW c (k + 1) ≤ k + 1 := kpW_le c (k + 1)
                    have HR := Lib.hid (And.intro hxb (And.intro ho hz))
                    have HS : Hid (∀ W, OneB X Y Z W → W.heap[X]? = some (.cells #[.int .i64 ni, .slice s (kpW c k) cc, .slice s2 c.gates.length c2, .slice none 0 0] 26 (0, 0)) → (fun w' => (∀ o, w'.cell? ⟨X, o, none⟩ = #[Value.int .i64 ni, .slice s (kpW c k) cc, .slice s2 c.gates.length c2, .slice none 0 0][o]?) ∧ (∀ o, w'.cell? ⟨A, o, none⟩ = #[Value.int .i64 ni, .slice (some ⟨xb, xf, none⟩) c.next.length cn, .slice sg c.gates.length cg, .slice so c.outs.length co][o]?) ∧ w'.cell? ⟨xb, xf + k, none⟩ = some (.int .i64 x)) W) := fun W hW hB => ⟨(blk_all hB).1, (HX.out _ (HNX.out _ hW)).1.1, by
                      obtain ⟨_, _, e1, -, q1⟩ := (HSW.out _ (HNX.out _ hW)).1.int (Below.refl _ _) hx
                      cases e1; exact q1⟩
                    clear hxb ho hz hx zx hxbl hue hxu
                    cases ubit
                    · have HRK := Lib.hid (And.intro hkp hnx)
                      clear hkp hnx
                      go_wp2_with fail
                      clear cb zu hq
                      go_roundw
                      case rel => exact ⟨k + 1, s, cc, by omega, by go_num, by have := HRK.out.1; simp at this; rw [this]; exact HR.out.1, by have h1 := HRK.out.1; have h2 := HRK.out.2; simp at h1 h2; rw [h1, h2]; exact HR.out.2.1, HR.out.2.2⟩
                      case measure => simp [intOf]; omega
                    · have HRK : Hid (kpW c (k + 1) = kpW c k + 1 ∧ nxW c (k + 1) = nxW c k ++ [rmL c x]) := ⟨by rw [hkp]; rfl, by rw [hnx]; rfl⟩
                      clear hkp hnx
                      go_upto_region 27 with fail
                      clear cb
                      refine wp_region_E (fun w' => (∀ o, w'.cell? ⟨X, o, none⟩ = #[Value.int .i64 ni, .slice s (kpW c k) cc, .slice s2 c.gates.length c2, .slice none 0 0][o]?) ∧ (∀ o, w'.cell? ⟨A, o, none⟩ = #[Value.int .i64 ni, .slice (some ⟨xb, xf, none⟩) c.next.length cn, .slice sg c.gates.length cg, .slice so c.outs.length co][o]?) ∧ w'.cell? ⟨xb, xf + k, none⟩ = some (.int .i64 x)) 12 (.q 0 (.q 1 (.q 2 (.q 3 (.q 4 (.q 5 (.q 6 (.q 7 (.e 8 (.e 9 (.e 10 (.q 11 (.z 12))))))))))))) (by kernel_rfl) (by kernel_rfl) (by kernel_rfl) (by kernel_rfl) (by kernel_rfl) (by kernel_rfl) (HS.out _ (HR.out.2.2.below (Below.refl _ _).drew) (drewB HR.out.1)) ?_
                      repeat (first | (refine orde_s (o := ?_) ?_ ?_ ?_; rotate_left 1; (focus ((simp only [zD, zE, zF]) <;> rfl)); (focus rfl); simp only [Act.put, zA, zB, zC]) | (refine orde_q (o := ?_) (v := ?_) ?_ ?_ ?_ ?_; rotate_left 2; (focus ((simp only [zD, zE, zF]) <;> rfl)); (focus rfl); (focus (intro w' hS; (try dsimp only at hS); go_split_ands; go_simp; (try (with_reducible rfl)))); simp only [Act.put, zA, zB, zC]))
                      refine orde_e ?_
                      (refine ope_e (o := ?_) ?_ ?_ (fun K hK => ?_); rotate_left 1; (focus ((simp only [zD, zE, zF]) <;> rfl)); (focus rfl); go_simp)
                      refine (HLM.out _ (HR.out.2.2.below (Below.refl _ _).drew) x x0 x1).mono ?_
                      rintro e wa ⟨rfl, rfl⟩
                      refine hK.out _ _ (HS.out _ (HR.out.2.2.below (Below.refl _ _).drew) (drewB HR.out.1)) ?_
                      clear hK K
                      (try simp only [Act.put, zA, zB, zC])
                      refine orde_e ?_
                      (refine ope_e (o := ?_) ?_ ?_ (fun K hK => ?_); rotate_left 1; (focus ((simp only [zD, zE, zF]) <;> rfl)); (focus rfl); go_simp)
                      have hb1 : Below wr.heap.size wr (wr.alloc (.cells #[.int .i64 (rmL c x)] 3)).drew := ((Below.refl _ _).alloc (Nat.le_refl _) _).drew
                      have hs1 : Sl (wr.alloc (.cells #[.int .i64 (rmL c x)] 3)).drew (some ⟨wr.heap.size, 0, none⟩) [.int .i64 (rmL c x)] := (Sl.new wr _ _).drew
                      revert hb1 hs1
                      generalize (wr.alloc (.cells #[.int .i64 (rmL c x)] 3)).drew = W7
                      intro hb1 hs1
                      have hx7 := blk_below hb1 (blk_lt HR.out.1) HR.out.1
                      have ho7 := own_below HR.out.2.1 hb1
                      have hz7 := HR.out.2.2.below (hb1.mono HR.out.2.2.size)
                      refine hK.out _ _ (HS.out _ hz7 hx7) ?_
                      clear hK K
                      have H7 := Lib.hid (And.intro hx7 (And.intro ho7 (And.intro hz7 hs1)))
                      clear hx7 ho7 hz7 hs1 hb1
                      (try simp only [Act.put, zA, zB, zC])
                      refine orde_e ?_
                      (refine ope_e (o := ?_) ?_ ?_ (fun K hK => ?_); rotate_left 1; (focus ((simp only [zD, zE, zF]) <;> rfl)); (focus rfl))
                      refine wp_app (.tmp 118) (.tmp 126) rfl elem_int H7.out.2.1 rfl rfl (by simp) H7.out.2.2.2 (by simp [Value.oneCell']) (kpW c (k + 1)) (HRK.out.1.symm) (ints (nxW c (k + 1))) (by rw [HRK.out.2]; exact ints_snoc rfl) (by unfold maxLen; omega) (by omega) H7.out.2.2.1.size ?_
                      intro s7 c7 W8 ho8 hb8 hg8 hob8
                      have hx8 := (Chg.of_grown hg8).blk H7.out.1 (fun e => own_tyb H7.out.2.1 H7.out.1 (by decide) e)
                      have hz8 := H7.out.2.2.1.below hb8
                      refine hK.out _ _ (HS.out _ hz8 hx8) ?_
                      clear hK K
                      have y1 : W8.cell? ⟨X, 1, none⟩ = some (.slice s (kpW c k) cc) := blk_cell hx8
                      have y2 : W8.frozen? ⟨X, 1, none⟩ = false := blk_free hx8
                      have hz9 := hz8.set 1 (.slice s7 (kpW c (k + 1)) c7)
                      have ho9 := own_set_ne (o := 1) ho8 (own_tyb ho8 hx8 (by decide)) (.slice s7 (kpW c (k + 1)) c7)
                      have hx9 : (W8.setCell ⟨X, 1, none⟩ (.slice s7 (kpW c (k + 1)) c7)).heap[X]? = some (.cells #[.int .i64 ni, .slice s7 (kpW c (k + 1)) c7, .slice s2 c.gates.length c2, .slice none 0 0] 26 (0, 0)) := by simpa using blk_set (o := 1) (v := .slice s7 (kpW c (k + 1)) c7) hx8
                      have H8 := Lib.hid (And.intro hx9 (And.intro ho9 hz9))
                      clear hx8 hz8 hz9 ho9 hx9 ho8 hb8 hg8 hob8
                      (try simp only [Act.put, zA, zB, zC])
                      repeat (first | (refine orde_s (o := ?_) ?_ ?_ ?_; rotate_left 1; (focus ((simp only [zD, zE, zF]) <;> rfl)); (focus rfl); simp only [Act.put, zA, zB, zC]) | (refine orde_q (o := ?_) (v := ?_) ?_ ?_ ?_ ?_; rotate_left 2; (focus ((simp only [zD, zE, zF]) <;> rfl)); (focus rfl); (focus (intro w' hS; (try dsimp only at hS); go_split_ands; go_simp; (try (with_reducible rfl)))); simp only [Act.put, zA, zB, zC]))
                      (refine orde_z (o := ?_) ?_ ?_ (fun K hK => ?_); rotate_left 1; (focus ((simp only [zD, zE, zF]) <;> rfl)); (focus rfl); go_simp)
                      refine hK.out _ _ ?_
                      clear hK K y1 y2
                      go_wp2_with fail
                      go_roundw
                      case rel => exact ⟨k + 1, s7, c7, by omega, by go_num, H8.out.1, H8.out.2.1, H8.out.2.2⟩
                      case measure => simp [intOf]; omega
                  · obtain rfl : k = c.next.length := by omega
                    obtain ⟨sN, rfl⟩ : ∃ sN, sN = s := ⟨_, rfl⟩
                    obtain ⟨cN, rfl⟩ : ∃ cN, cN = cc := ⟨_, rfl⟩
                    obtain ⟨Z2, rfl⟩ : ∃ Z, Z = wr := ⟨_, rfl⟩
                    obtain ⟨Y2, hY2⟩ : ∃ Y, Y = Z2.heap.size := ⟨_, rfl⟩
                    have hYY : Y ≤ Y2 := by rw [hY2]; exact hz.size
                    have hXY2 : X < Y2 := by omega
                    have HUP : Hid (∀ W, OneB X Y2 Z2 W → OneB X Y Z W) := fun W h => hz.trans (h.up hYY)
                    have HNO : Hid (∀ W, OneB X Y2 Z2 W → W.ownsRow Y 3 1 (.slice sN (kpW c c.next.length) cN) (kpW c c.next.length) (ints (nxW c c.next.length))) := fun W h => h.own ho (own_tyb ho hxb (by decide)) (fun k hk => by rw [hY2]; exact (own_blk ho hk).2)
                    have HNB : Hid (∀ k, (Value.slice sN (kpW c c.next.length) cN).ownBlock = some k → k < Y2) := fun k hk => by rw [hY2]; exact (own_blk ho hk).2
                    have HZ1 := Lib.hid (And.intro hxb (And.intro (World.ownsRow_nil Z2 Y2 3 1) (OneB.refl (X := X) (Y := Y2) (w := Z2) (Nat.le_of_eq hY2))))
                    clear ho hxb hz hY2
                    go_wp2_with fail
                    clear cb
                    go_loopw [11] (fun i wr => ∃ (k : Nat) (s : Option Addr) (cc : Nat), k ≤ c.outs.length ∧ i = .int .i64 k ∧ wr.heap[X]? = some (.cells #[.int .i64 ni, .slice sN (kpW c c.next.length) cN, .slice s2 c.gates.length c2, .slice s k cc] 26 (0, 0)) ∧ wr.ownsRow Y2 3 1 (.slice s k cc) k (ints ((c.outs.take k).map (rmL c))) ∧ OneB X Y2 Z2 wr) (fun i _ => c.outs.length - (intOf i).toNat)
                    case atStart => exact ⟨0, _, _, Nat.zero_le _, rfl, HZ1.out.1, HZ1.out.2.1, HZ1.out.2.2⟩
                    case round =>
                      obtain ⟨k, s, cc, hk, rfl, hxb, ho, hz⟩ := hrel
                      have cb := (HX.out _ (HNX.out _ (HUP.out _ hz))).1.1
                      have HXb : Hid (wr.heap[X]? = some (.cells #[.int .i64 ni, .slice sN (kpW c c.next.length) cN, .slice s2 c.gates.length c2, .slice s k cc] 26 (0, 0))) := hxb
                      by_cases hlt : k < c.outs.length
                      · obtain ⟨x, hx⟩ := get_of_lt hlt
                        obtain ⟨xb, xf, rfl, hxbl, zx⟩ := (HSW.out _ (HNX.out _ (HUP.out _ hz))).2.2.int (Below.refl _ _) hx
                        obtain ⟨x0, x1⟩ : 0 ≤ x ∧ x / 2 < (F : Int) + c.gates.length := by
                          have h1 : 0 ≤ x ∧ x < 2 * c.vars := HN.out.2.2.2.2.outs x (List.mem_of_getElem? hx)
                          have h2 := HN.out.2.1
                          have h3 := HN.out.2.2.2.1
                          omega
                        have HR := Lib.hid (And.intro hxb (And.intro ho hz))
                        have HRK := Lib.hid hx
                        have HLM2 : Hid (∀ W, OneB X Y2 Z2 W → ∀ l : Int, 0 ≤ l → l / 2 < (F : Int) + c.gates.length → Calls Try.prog 77 #[.slice sM (F + c.gates.length) cM, .int .i64 l] W fun e w' => e = .returned (.int .i64 (rmL c l)) ∧ W = w') := fun W h => HLM.out W (HUP.out W h)
                        have HS : Hid (∀ W, OneB X Y2 Z2 W → W.heap[X]? = some (.cells #[.int .i64 ni, .slice sN (kpW c c.next.length) cN, .slice s2 c.gates.length c2, .slice s k cc] 26 (0, 0)) → (fun w' => (∀ o, w'.cell? ⟨X, o, none⟩ = #[Value.int .i64 ni, .slice sN (kpW c c.next.length) cN, .slice s2 c.gates.length c2, .slice s k cc][o]?) ∧ (∀ o, w'.cell? ⟨A, o, none⟩ = #[Value.int .i64 ni, .slice sn c.next.length cn, .slice sg c.gates.length cg, .slice (some ⟨xb, xf, none⟩) c.outs.length co][o]?) ∧ w'.cell? ⟨xb, xf + k, none⟩ = some (.int .i64 x)) W) := fun W hW hB => ⟨(blk_all hB).1, (HX.out _ (HNX.out _ (HUP.out _ hW))).1.1, by
                          obtain ⟨_, _, e1, -, q1⟩ := (HSW.out _ (HNX.out _ (HUP.out _ hW))).2.2.int (Below.refl _ _) hx
                          cases e1; exact q1⟩
                        clear hxb ho hz hx zx hxbl HXb
                        go_upto_region 31 with fail
                        clear cb
                        refine wp_region_E (fun w' => (∀ o, w'.cell? ⟨X, o, none⟩ = #[Value.int .i64 ni, .slice sN (kpW c c.next.length) cN, .slice s2 c.gates.length c2, .slice s k cc][o]?) ∧ (∀ o, w'.cell? ⟨A, o, none⟩ = #[Value.int .i64 ni, .slice sn c.next.length cn, .slice sg c.gates.length cg, .slice (some ⟨xb, xf, none⟩) c.outs.length co][o]?) ∧ w'.cell? ⟨xb, xf + k, none⟩ = some (.int .i64 x)) 12 (.q 0 (.q 1 (.q 2 (.q 3 (.q 4 (.q 5 (.q 6 (.q 7 (.e 8 (.e 9 (.e 10 (.q 11 (.z 12))))))))))))) (by kernel_rfl) (by kernel_rfl) (by kernel_rfl) (by kernel_rfl) (by kernel_rfl) (by kernel_rfl) (HS.out _ (HR.out.2.2.below (Below.refl _ _).drew) (drewB HR.out.1)) ?_
                        repeat (first | (refine orde_s (o := ?_) ?_ ?_ ?_; rotate_left 1; (focus ((simp only [zD, zE, zF]) <;> rfl)); (focus rfl); simp only [Act.put, zA, zB, zC]) | (refine orde_q (o := ?_) (v := ?_) ?_ ?_ ?_ ?_; rotate_left 2; (focus ((simp only [zD, zE, zF]) <;> rfl)); (focus rfl); (focus (intro w' hS; (try dsimp only at hS); go_split_ands; go_simp; (try (with_reducible rfl)))); simp only [Act.put, zA, zB, zC]))
                        refine orde_e ?_
                        (refine ope_e (o := ?_) ?_ ?_ (fun K hK => ?_); rotate_left 1; (focus ((simp only [zD, zE, zF]) <;> rfl)); (focus rfl); go_simp)
                        refine (HLM2.out _ (HR.out.2.2.below (Below.refl _ _).drew) x x0 x1).mono ?_
                        rintro e wa ⟨rfl, rfl⟩
                        refine hK.out _ _ (HS.out _ (HR.out.2.2.below (Below.refl _ _).drew) (drewB HR.out.1)) ?_
                        clear hK K
                        (try simp only [Act.put, zA, zB, zC])
                        refine orde_e ?_
                        (refine ope_e (o := ?_) ?_ ?_ (fun K hK => ?_); rotate_left 1; (focus ((simp only [zD, zE, zF]) <;> rfl)); (focus rfl); go_simp)
                        have hb1 : Below wr.heap.size wr (wr.alloc (.cells #[.int .i64 (rmL c x)] 3)).drew := ((Below.refl _ _).alloc (Nat.le_refl _) _).drew
                        have hs1 : Sl (wr.alloc (.cells #[.int .i64 (rmL c x)] 3)).drew (some ⟨wr.heap.size, 0, none⟩) [.int .i64 (rmL c x)] := (Sl.new wr _ _).drew
                        revert hb1 hs1
                        generalize (wr.alloc (.cells #[.int .i64 (rmL c x)] 3)).drew = W7
                        intro hb1 hs1
                        have hx7 := blk_below hb1 (blk_lt HR.out.1) HR.out.1
                        have ho7 := own_below HR.out.2.1 hb1
                        have hz7 := HR.out.2.2.below (hb1.mono HR.out.2.2.size)
                        refine hK.out _ _ (HS.out _ hz7 hx7) ?_
                        clear hK K
                        have H7 := Lib.hid (And.intro hx7 (And.intro ho7 (And.intro hz7 hs1)))
                        clear hx7 ho7 hz7 hs1 hb1
                        (try simp only [Act.put, zA, zB, zC])
                        refine orde_e ?_
                        (refine ope_e (o := ?_) ?_ ?_ (fun K hK => ?_); rotate_left 1; (focus ((simp only [zD, zE, zF]) <;> rfl)); (focus rfl))
                        refine wp_app (.tmp 137) (.tmp 145) rfl elem_int H7.out.2.1 rfl rfl (by simp) H7.out.2.2.2 (by simp [Value.oneCell']) (k + 1) (rfl) (ints ((c.outs.take (k + 1)).map (rmL c))) (by rw [map_snoc HRK.out, ← ints_append]; rfl) (by unfold maxLen; omega) (by omega) H7.out.2.2.1.size ?_
                        intro s7 c7 W8 ho8 hb8 hg8 hob8
                        have hx8 := (Chg.of_grown hg8).blk H7.out.1 (fun e => own_tyb H7.out.2.1 H7.out.1 (by decide) e)
                        have hz8 := H7.out.2.2.1.below hb8
                        refine hK.out _ _ (HS.out _ hz8 hx8) ?_
                        clear hK K
                        have y1 : W8.cell? ⟨X, 3, none⟩ = some (.slice s k cc) := blk_cell hx8
                        have y2 : W8.frozen? ⟨X, 3, none⟩ = false := blk_free hx8
                        have hz9 := hz8.set 3 (.slice s7 (k + 1) c7)
                        have ho9 := own_set_ne (o := 3) ho8 (own_tyb ho8 hx8 (by decide)) (.slice s7 (k + 1) c7)
                        have hx9 : (W8.setCell ⟨X, 3, none⟩ (.slice s7 (k + 1) c7)).heap[X]? = some (.cells #[.int .i64 ni, .slice sN (kpW c c.next.length) cN, .slice s2 c.gates.length c2, .slice s7 (k + 1) c7] 26 (0, 0)) := by simpa using blk_set (o := 3) (v := .slice s7 (k + 1) c7) hx8
                        have H8 := Lib.hid (And.intro hx9 (And.intro ho9 hz9))
                        clear hx8 hz8 hz9 ho9 hx9 ho8 hb8 hg8 hob8
                        (try simp only [Act.put, zA, zB, zC])
                        repeat (first | (refine orde_s (o := ?_) ?_ ?_ ?_; rotate_left 1; (focus ((simp only [zD, zE, zF]) <;> rfl)); (focus rfl); simp only [Act.put, zA, zB, zC]) | (refine orde_q (o := ?_) (v := ?_) ?_ ?_ ?_ ?_; rotate_left 2; (focus ((simp only [zD, zE, zF]) <;> rfl)); (focus rfl); (focus (intro w' hS; (try dsimp only at hS); go_split_ands; go_simp; (try (with_reducible rfl)))); simp only [Act.put, zA, zB, zC]))
                        (refine orde_z (o := ?_) ?_ ?_ (fun K hK => ?_); rotate_left 1; (focus ((simp only [zD, zE, zF]) <;> rfl)); (focus rfl); go_simp)
                        refine hK.out _ _ ?_
                        clear hK K y1 y2
                        go_wp2_with fail
                        go_roundw
                        case rel => exact ⟨k + 1, s7, c7, by omega, by go_num, H8.out.1, H8.out.2.1, H8.out.2.2⟩
                        case measure => simp [intOf]; omega
                      · obtain rfl : k = c.outs.length := by omega
                        rw [List.take_length] at ho
                        have hz0 := HUP.out _ hz
                        have hn := HNO.out _ hz
                        have hg := HGO.out _ hz0
                        have hnn := rmC_next c
                        have hvv := rmC_valid HN.out.2.2.2.2
                        have hgg : (rmC c).gates.length = c.gates.length := by simp [rmC, mapG]
                        have hoo : (rmC c).outs.length = c.outs.length := by simp [rmC]
                        have hkl := kpW_le c c.next.length
                        have hvx : CirV wr (.agg #[.int .i64 ni, .slice sN (kpW c c.next.length) cN, .slice s2 c.gates.length c2, .slice s c.outs.length cc]) (rmC c) :=
                          ⟨sN, cN, s2, c2, s, cc, by rw [hnn, hgg, hoo, show (rmC c).inp = (ni : Int) from HN.out.1], own_sl hn, own_sl hg, own_sl ho, by rw [hnn]; omega, by rw [hgg]; omega, by rw [hoo]; omega⟩
                        have HOS := Lib.hid (Optimize_s _ (rmC c) wr hvx)
                        have HOY := Lib.hid (optR_yes ((Cir.validB_iff _).2 hvv))
                        have HE := Lib.hid (HX.out _ (HNX.out _ hz0)).2.1
                        have cB := (blk_all hxb).1
                        clear HXb hxb ho hz hz0 hn hg hnn hvv hgg hoo hkl hvx
                        go_wp2_with (go_at_call 111; refine HOS.out.mono ?_; rintro e w9 ⟨vn, vg, vo, rfl, hO, hq⟩; rw [HOY.out] at hO ⊢; obtain ⟨s9n, c9n, rfl⟩ := own_shape hO.n; obtain ⟨s9g, c9g, rfl⟩ := own_shape hO.g; obtain ⟨s9o, c9o, rfl⟩ := own_shape hO.o; have H9 := Lib.hid (And.intro hO (HE.out.trans (hq.mono HE.out.size))); clear hO hq cB cb; obtain ⟨rc, rf⟩ := blk_all (HB.out _ H9.out.2).2.1)
                        clear rc rf
                        have hR := (HB.out _ H9.out.2).2.1
                        have hwz := HW.out.2.1
                        have hwz2 := HW.out.2.2
                        have hez := HE.out.size
                        have hO9 := (H9.out.1).sets4 (r := A + 1) (by omega) (base := w.heap.size) (by omega) (a := .int .i64 ni) (b' := .slice s9n (optC (rmC c)).next.length c9n) (c' := .slice s9g (optC (rmC c)).gates.length c9g) (d := .slice s9o (optC (rmC c)).outs.length c9o)
                        have hZ : (((((w9.setCell ⟨A + 1, 0, none⟩ (.int .i64 ni)).setCell ⟨A + 1, 1, none⟩ (.slice s9n (optC (rmC c)).next.length c9n)).setCell ⟨A + 1, 2, none⟩ (.slice s9g (optC (rmC c)).gates.length c9g)).setCell ⟨A + 1, 3, none⟩ (.slice s9o (optC (rmC c)).outs.length c9o))).heap[A + 1]? = some (.cells #[.int .i64 ni, .slice s9n (optC (rmC c)).next.length c9n, .slice s9g (optC (rmC c)).gates.length c9g, .slice s9o (optC (rmC c)).outs.length c9o] 26 (0, 0)) := by simpa using blk_set (o := 3) (v := .slice s9o (optC (rmC c)).outs.length c9o) (blk_set (o := 2) (v := .slice s9g (optC (rmC c)).gates.length c9g) (blk_set (o := 1) (v := .slice s9n (optC (rmC c)).next.length c9n) (blk_set (o := 0) (v := .int .i64 ni) hR)))
                        have hbz := (((((HB.out _ H9.out.2).2.2.2).setCell (p := ⟨A + 1, 0, none⟩) (by simp; omega) (.int .i64 ni)).setCell (p := ⟨A + 1, 1, none⟩) (by simp; omega) (.slice s9n (optC (rmC c)).next.length c9n)).setCell (p := ⟨A + 1, 2, none⟩) (by simp; omega) (.slice s9g (optC (rmC c)).gates.length c9g)).setCell (p := ⟨A + 1, 3, none⟩) (by simp; omega) (.slice s9o (optC (rmC c)).outs.length c9o)
                        clear hR hwz hwz2 hez
                        revert hZ hO9 hbz
                        generalize (((((w9.setCell ⟨A + 1, 0, none⟩ (.int .i64 ni)).setCell ⟨A + 1, 1, none⟩ (.slice s9n (optC (rmC c)).next.length c9n)).setCell ⟨A + 1, 2, none⟩ (.slice s9g (optC (rmC c)).gates.length c9g)).setCell ⟨A + 1, 3, none⟩ (.slice s9o (optC (rmC c)).outs.length c9o))) = WZ
                        intro hO9 hZ hbz
                        have cr := (blk_all hZ).1
                        exact bodyPost_ret (v := .agg #[.int .i64 ni, .slice s9n (optC (rmC c)).next.length c9n, .slice s9g (optC (rmC c)).gates.length c9g, .slice s9o (optC (rmC c)).outs.length c9o]) (by simp [results, Try.results54, go_sem, cr]) rfl ⟨_, _, _, by first | rfl | rw [eopt], hO9, hbz⟩

end Go.Proofs.Ytbcolcchchgldaa
