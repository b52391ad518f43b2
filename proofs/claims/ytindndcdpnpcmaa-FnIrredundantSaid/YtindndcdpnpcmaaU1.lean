import Derived.Test.YtindndcdpnpcmaaH6
namespace Go.Proofs.Ytindndcdpnpcmaa
set_option linter.unusedVariables false
set_option linter.unusedSimpArgs false
open Go.RowKit

theorem findN_rangeU (p : Int → Bool) (N : Nat) : findN p N = -1 ∨ (0 ≤ findN p N ∧ findN p N < N) := by
  unfold findN
  cases h : (List.range N).find? (fun (x : Nat) => p (x : Int)) with
  | none => exact .inl rfl
  | some x =>
    have := List.mem_of_find?_eq_some h
    have := List.mem_range.1 this
    exact .inr ⟨by simp, by simp; omega⟩
def undF (c : Cir) (f : Int × Bool) : Bool := decide (findN (detV c f.1 f.2) (asgN c) < 0)
def undL (c : Cir) (m k : Nat) : List (Int × Bool) := ((faultsL m).take k).filter (undF c)
theorem undL_snoc {c : Cir} {m k : Nat} {f : Int × Bool} (h : (faultsL m)[k]? = some f) : undL c m (k + 1) = if undF c f = true then undL c m k ++ [f] else undL c m k := by
  unfold undL
  rw [List.take_add_one, h, List.filter_append]
  by_cases e : undF c f = true <;> simp [e]
theorem undL_len (c : Cir) (m k : Nat) : (undL c m k).length ≤ k := by
  unfold undL
  exact Nat.le_trans (List.length_filter_le _ _) (by rw [List.length_take]; omega)
def undR (c : Cir) : List (Int × Bool) := if c.validB = true then undL c (c.vars.toNat - 1) (2 * (c.vars.toNat - 1)) else []
theorem undR_no {c : Cir} (h : c.validB = false) : undR c = [] := by unfold undR; rw [h]; rfl
theorem undR_yes {c : Cir} (h : c.validB = true) {V : Nat} (hV : c.vars = V) : undR c = undL c (V - 1) (2 * (V - 1)) := by unfold undR; rw [if_pos h, hV]; rfl
theorem undR_len (c : Cir) : (undR c).length ≤ 1000000 := by
  cases h : c.validB
  · rw [undR_no h]; simp
  · have hv := c.validB_iff.1 h
    obtain ⟨f1, f2, f3, f4⟩ := valid_first hv
    rw [undR_yes h (V := c.vars.toNat) (by omega)]
    have := undL_len c (c.vars.toNat - 1) (2 * (c.vars.toNat - 1))
    omega

theorem chg_cellU {S : Nat → Prop} {w w' : World} (h : Chg S w w') {b o : Nat} (hb : b < w.heap.size) (hs : ¬ S b) : w'.cell? ⟨b, o, none⟩ = w.cell? ⟨b, o, none⟩ := by
  simp [World.cell?, h.block b hb hs]

theorem Faults_invU (v : Value) (c : Cir) (w : World) (h : CirV w v c) (hval : c.validB = false) :
    Calls Try.prog 86 #[v] w fun e w' => e = .returned (.slice none 0 0) ∧ Below w.heap.size w w' := by
  have HC : Hid (∀ w', Below w.heap.size w w' → CirV w' v c) := fun w' hb => h.mono hb
  obtain ⟨sn, cn, sg, cg, so, co, rfl, h1, h2, h3, hl1, hl2, hl3⟩ := h
  have hL : Below w.heap.size w (w.alloc (.cells #[.int .i64 c.inp, .slice sn c.next.length cn, .slice sg c.gates.length cg, .slice so c.outs.length co] 29)) := by go_grown
  have HL := Lib.hid hL
  have HE := Lib.hid hval
  clear hL hval h1 h2 h3
  go_enter Try.func86, Try.ntmps86
  go_wp2_with (go_at_call 56; ((with_reducible refine (CircuitValid_i _ _ _ (HC.out _ HL.out)).mono ?_); rintro e w1 ⟨rfl, hq⟩; have HQ := Lib.hid hq; clear hq; rw [HE.out]))
  go_ret
  exact ⟨rfl, HL.out.trans (HQ.out.mono (by simp))⟩

set_option maxHeartbeats 3200000 in
theorem Undetectable_i (v : Value) (c : Cir) (w : World) (h : CirV w v c) :
    Calls Try.prog 41 #[v] w fun e w' => ∃ s cap, e = .returned (.slice s (undR c).length cap) ∧ w'.ownsRow w.heap.size 51 2 (.slice s (undR c).length cap) (undR c).length (fcells (undR c)) ∧ Below w.heap.size w w' := by
  have HC : Hid (∀ w', Below w.heap.size w w' → CirV w' v c) := fun w' hb => h.mono hb
  obtain ⟨sn, cn, sg, cg, so, co, rfl, h1, h2, h3, hl1, hl2, hl3⟩ := h
  have hL : Below w.heap.size w (w.alloc (.cells #[.int .i64 c.inp, .slice sn c.next.length cn, .slice sg c.gates.length cg, .slice so c.outs.length co] 29)) := by go_grown
  have hN := blk_new w (.cells #[.int .i64 c.inp, .slice sn c.next.length cn, .slice sg c.gates.length cg, .slice so c.outs.length co] 29)
  have HL := Lib.hid (And.intro hL (And.intro hN (And.intro h1 (And.intro h2 h3))))
  clear hL hN h1 h2 h3
  cases hv : c.validB
  · rw [undR_no hv]
    have HE := Lib.hid hv
    clear hv
    go_enter Try.func41, Try.ntmps41
    go_wp2_with (go_at_call 86; ((with_reducible refine (Faults_invU _ _ _ (HC.out _ HL.out.1) HE.out).mono ?_); rintro e w1 ⟨rfl, hq⟩; have HQ := Lib.hid (HL.out.1.trans (hq.mono (by simp))); clear hq))
    refine wp_loop_rounds 1 ?_
    rw [rounds_succ]
    go_wp2_with fail
    go_ret
    exact ⟨_, _, rfl, World.ownsRow_nil _ _ _ _, HQ.out⟩
  · have hval := c.validB_iff.1 hv
    obtain ⟨f1, f2, f3, f4⟩ := valid_first hval
    obtain ⟨n1, n2⟩ := asgN_le hval
    obtain ⟨V, hV⟩ : ∃ V : Nat, c.vars = V := ⟨c.vars.toNat, by omega⟩
    have v1 : 1 ≤ V := by omega
    have v22 : V ≤ 22 := by omega
    rw [undR_yes hv hV]
    have HH := Lib.hid (And.intro hv (And.intro hval (And.intro hV n2)))
    clear hv hval hV f1 f2 f3 f4 n1 n2
    obtain ⟨M, hM⟩ : ∃ M, M = 2 * (V - 1) := ⟨_, rfl⟩
    rw [← hM]
    have hM42 : M ≤ 42 := by omega
    have HMM := Lib.hid hM
    clear hM
    go_enter Try.func41, Try.ntmps41
    go_wp2_with (go_at_call 86; ((with_reducible refine (Faults_any _ _ _ (HC.out _ HL.out.1) HH.out.2.1 V HH.out.2.2.1).mono ?_); rintro e w4 ⟨s4, c4, rfl, hs4, hq⟩; rw [← HMM.out]; have HF := Lib.hid (And.intro hs4 (And.intro (HL.out.1.trans (hq.mono (by simp))) (blk_below hq (blk_lt HL.out.2.1) HL.out.2.1))); clear hs4 hq))
    go_loopw [9, 3] (fun i x wr => ∃ (k : Nat) (s : Option Addr) (cc : Nat), k ≤ M ∧ i = .int .i64 k ∧ x = .slice s (undL c (V - 1) k).length cc ∧ wr.ownsRow w4.heap.size 51 2 x (undL c (V - 1) k).length (fcells (undL c (V - 1) k)) ∧ Below w4.heap.size w4 wr) (fun i _ _ => M - (intOf i).toNat)
    case atStart => exact ⟨0, _, _, Nat.zero_le _, rfl, rfl, World.ownsRow_nil _ _ _ _, Below.refl _ _⟩
    case round =>
      obtain ⟨k, s3, c3, hk, rfl, rfl, ho, hbl⟩ := hrel
      have hblk := blk_below hbl (blk_lt HF.out.2.2) HF.out.2.2
      have hbw : Below w.heap.size w wr := HF.out.2.1.trans (hbl.mono HF.out.2.1.size)
      have hsz := hbl.size
      obtain ⟨xs, hxs⟩ : ∃ xs, xs = undL c (V - 1) k := ⟨_, rfl⟩
      have hinv1 := undL_len c (V - 1) k
      rw [← hxs] at ho hinv1 ⊢
      have hll : xs.length ≤ 42 := by omega
      by_cases hlt : k < M
      · have hfl : k < (faultsL (V - 1)).length := by rw [faultsL_length]; have := HMM.out; omega
        obtain ⟨⟨p, val⟩, hf⟩ := get_of_lt hfl
        obtain ⟨fb, foff, rfl, hfb, z1, z2⟩ := HF.out.1.fault hbl hf
        obtain ⟨p1, p2⟩ := faultsL_range _ (List.mem_of_getElem? hf)
        have hp2 : p < c.vars := by have := HH.out.2.2.1; omega
        have hstep := undL_snoc (c := c) hf
        rw [← hxs] at hstep
        unfold undF at hstep
        dsimp only at hstep z1 z2 p1
        obtain ⟨X, hX⟩ : ∃ X, X = findN (detV c p val) (asgN c) := ⟨_, rfl⟩
        have hXr := findN_rangeU (detV c p val) (asgN c)
        rw [← hX] at hstep hXr
        have x1 : -1 ≤ X := by rcases hXr with e | e <;> omega
        have x2 : X ≤ 1000 := by have := HH.out.2.2.2; rcases hXr with e | e <;> omega
        have HR := Lib.hid (And.intro ho (And.intro hbl (And.intro hbw (And.intro hblk (And.intro hxs (And.intro hstep (And.intro hX hp2)))))))
        clear ho hbl hbw hblk hxs hinv1 hf p2 hstep hX hXr hp2 hfb hfl
        go_upto_region 5 with fail
        have hb0 : Below wr.heap.size wr (wr.alloc (.cells #[.int .i64 p, .bool val] 51)) := (Below.refl _ _).alloc (Nat.le_refl _) _
        have hn0 := blk_new wr (.cells #[.int .i64 p, .bool val] 51)
        have hz0 : (wr.alloc (.cells #[.int .i64 p, .bool val] 51)).heap.size = wr.heap.size + 1 := by simp
        clear z1 z2
        revert hb0 hn0 hz0
        generalize wr.alloc (.cells #[.int .i64 p, .bool val] 51) = WG
        intro hb0 hn0 hz0
        have H6 := Lib.hid (And.intro (HR.out.2.2.1.trans (hb0.mono HR.out.2.2.1.size)) (And.intro (own_below HR.out.1 hb0) (And.intro (HR.out.2.1.trans (hb0.mono hsz)) (And.intro (blk_below hb0 (blk_lt HR.out.2.2.2.1) HR.out.2.2.2.1) (And.intro hn0 (show w4.heap.size ≤ WG.heap.size by omega))))))
        have cfl := (blk_all hn0).1
        clear hb0 hn0
        by_cases hX0 : X < 0
        · have hst : Hid (undL c (V - 1) (k + 1) = xs ++ [(p, val)]) := by have := HR.out.2.2.2.2.2.1; rw [if_pos (by simp; exact hX0)] at this; exact this
          go_wp2_with (first
            | (go_at_call 87; ((refine (findTest_any _ _ _ _ _ _ _ c p val _ (CirAt.of_blk H6.out.2.2.2.1) (HL.out.2.2.1.mono H6.out.1) (HL.out.2.2.2.1.mono H6.out.1) (HL.out.2.2.2.2.mono H6.out.1) HH.out.2.1 (by omega) HR.out.2.2.2.2.2.2.2).mono ?_); rintro e w7 ⟨rfl, hq⟩; rw [← HR.out.2.2.2.2.2.2.1]; have hs7 : w4.heap.size ≤ w7.heap.size := (Nat.le_trans H6.out.2.2.2.2.2 hq.size); have H7 := Lib.hid (And.intro (own_below H6.out.2.1 hq) (H6.out.2.2.1.trans (hq.mono H6.out.2.2.2.2.2))); clear cfl; have cfl := (blk_all (blk_below hq (blk_lt H6.out.2.2.2.2.1) H6.out.2.2.2.2.1)).1; clear hq))
            | (at_builtin; refine wpl_app rfl _ _ rfl elem_fault (own_below H7.out.1 ((Below.refl _ _).alloc (Nat.le_refl _) _)) rfl rfl rfl (Sl.new _ _ _) (by simp [Value.oneCell']) (xs.length + 1) rfl (fcells (xs ++ [(p, val)])) (by rw [← fcells_append]; rfl) (by unfold maxLen; omega) (by omega) (by simp; omega) ?_; intro s8 c8 w8 h8 hb8 _ _; have HA8 := Lib.hid (And.intro h8 hb8); clear h8 hb8))
          go_roundw
          case rel =>
            have el : (undL c (V - 1) (k + 1)).length = xs.length + 1 := by rw [hst.out]; simp
            refine ⟨k + 1, s8, c8, by omega, by go_num, by rw [el], ?_, (H7.out.2.alloc hs7 _).trans HA8.out.2⟩
            rw [el, hst.out]; exact HA8.out.1
          case measure => simp [intOf]; omega
        · have hst : Hid (undL c (V - 1) (k + 1) = xs) := by have := HR.out.2.2.2.2.2.1; rw [if_neg (by simp; omega)] at this; exact this
          go_wp2_with (go_at_call 87; ((refine (findTest_any _ _ _ _ _ _ _ c p val _ (CirAt.of_blk H6.out.2.2.2.1) (HL.out.2.2.1.mono H6.out.1) (HL.out.2.2.2.1.mono H6.out.1) (HL.out.2.2.2.2.mono H6.out.1) HH.out.2.1 (by omega) HR.out.2.2.2.2.2.2.2).mono ?_); rintro e w7 ⟨rfl, hq⟩; rw [← HR.out.2.2.2.2.2.2.1]; have H7 := Lib.hid (And.intro (own_below H6.out.2.1 hq) (H6.out.2.2.1.trans (hq.mono H6.out.2.2.2.2.2))); clear hq cfl))
          go_roundw
          case rel => exact ⟨k + 1, s3, c3, by omega, by go_num, by rw [hst.out], by rw [hst.out]; exact H7.out.1, H7.out.2⟩
          case measure => simp [intOf]; omega
      · obtain rfl : k = M := by omega
        have HR := Lib.hid (And.intro ho (And.intro hbw hxs))
        clear ho hbl hbw hblk hxs hinv1
        go_wp2_with fail
        go_ret
        rw [← HR.out.2.2]
        have hfin := own_base HR.out.1 HF.out.2.1.size
        first
          | exact ⟨s3, ⟨c3, rfl⟩, hfin, HR.out.2.1⟩
          | exact ⟨s3, c3, rfl, hfin, HR.out.2.1⟩

end Go.Proofs.Ytindndcdpnpcmaa
