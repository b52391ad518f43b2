import Derived.Test.YtdcjiclonjillaaZZ63RB
import Derived.Test.YtdcjiclonjillaaZZ63OV
import Derived.Test.YtdcjiclonjillaaZZ63OH
namespace Go.Proofs.Ytdcjiclonjillaa
set_option linter.unusedVariables false
set_option linter.unusedSimpArgs false
open Go.RowKit

/-! Part of the proof of one law. -/

def mS (c : Cir) (k : Nat) : List Int := (List.range k).map fun (v : Nat) => repV c v

theorem mS_length (c : Cir) (k : Nat) : (mS c k).length = k := by simp [mS]

theorem mS_succ (c : Cir) (k : Nat) : mS c (k + 1) = mS c k ++ [repV c k] := by simp [mS, List.range_succ]

theorem mS_mem {c : Cir} {k : Nat} {x : Int} (h : x ∈ mS c k) : 0 ≤ x ∧ x < 2 * (k : Int) := by
  obtain ⟨v, hv, rfl⟩ := List.mem_map.1 (show x ∈ (List.range k).map fun (v : Nat) => repV c v from h)
  have hv := List.mem_range.1 hv
  obtain ⟨u, hu, hr, -, -⟩ := repV_spec c v
  rcases hr with hr | hr <;> rw [hr] <;> omega

theorem mS_map {c : Cir} {V : Nat} {l : Int} (h0 : 0 ≤ l) (h1 : l / 2 < (V : Int)) : mapB (mS c V) l = swpL c l := by
  unfold mapB swpL mS
  rw [List.getD_eq_getElem?_getD, List.getElem?_map, List.getElem?_range (by omega)]
  rfl

theorem repL_some {c : Cir} {v w : Nat} (hw : w < v) (hn : ∀ u, u < w → sameV c v u = 0) : (sameV c v w = 1 → repV c v = 2 * (w : Int)) ∧ (sameV c v w = -1 → repV c v = 2 * (w : Int) + 1) :=
  ⟨fun h => by rw [repV_some hw (by omega) hn, if_pos h], fun h => by rw [repV_some hw (by omega) hn, if_neg (by omega)]⟩

theorem blk_oth {w : World} {b k o : Nat} {x : Obj} {v : Value} (h : w.heap[k]? = some x) (hne : k ≠ b) : (w.setCell ⟨b, o, none⟩ v).heap[k]? = some x := by
  exact blk_set_ne (Ne.symm hne) h

set_option maxRecDepth 100000 in
set_option maxHeartbeats 1600000 in
theorem l17Literal_any (v : Value) (c : Cir) (p : Nat) (w : World) (h : CirV w v c) (hv : c.valid) (hp : (p : Int) < c.vars) :
    Calls Try.prog 67 #[v, .int .i64 p] w fun e w' => e = .returned (.int .i64 (repV c p)) ∧ Below w.heap.size w w' := by
  have HG := Lib.hid h
  obtain ⟨sn, cn, sg, cg, so, co, rfl, -, -, -, -, -, -⟩ := h
  obtain ⟨q1, q2, q3, q4, q5⟩ := id hv.lim
  have p22 : p ≤ 22 := by unfold Cir.vars at hp; omega
  obtain ⟨W0, hW0⟩ : ∃ W0, W0 = w.alloc (.cells #[.int .i64 c.inp, .slice sn c.next.length cn, .slice sg c.gates.length cg, .slice so c.outs.length co] 28) := ⟨_, rfl⟩
  obtain ⟨A, hA⟩ : ∃ A, A = w.heap.size := ⟨_, rfl⟩
  have z1 : W0.heap.size = A + 1 := by rw [hW0, hA]; simp
  have z2 : W0.heap[A]? = some (.cells #[.int .i64 c.inp, .slice sn c.next.length cn, .slice sg c.gates.length cg, .slice so c.outs.length co] 28 (0, 0)) := by rw [hW0, hA]; exact blk_new w _
  have z4 : Below w.heap.size w W0 := by rw [hW0]; exact (Below.refl _ _).alloc (Nat.le_refl _) _
  have HW := Lib.hid (And.intro hW0 (And.intro hA z1))
  have HB : Hid (∀ W, Below W0.heap.size W0 W → (∀ o, W.cell? ⟨A, o, none⟩ = #[Value.int .i64 c.inp, .slice sn c.next.length cn, .slice sg c.gates.length cg, .slice so c.outs.length co][o]?) ∧ CirV W (.agg #[.int .i64 c.inp, .slice sn c.next.length cn, .slice sg c.gates.length cg, .slice so c.outs.length co]) c ∧ Below w.heap.size w W) := fun W hW => ⟨(blk_all (blk_below hW (by omega) z2)).1, HG.out.mono (z4.trans (hW.mono z4.size)), z4.trans (hW.mono z4.size)⟩
  have HS : Hid (∀ W (k : Nat), Below W0.heap.size W0 W → k < p → Calls Try.prog 91 #[.agg #[.int .i64 c.inp, .slice sn c.next.length cn, .slice sg c.gates.length cg, .slice so c.outs.length co], .int .i64 p, .int .i64 k] W fun e w' => e = .returned (.int .i64 (sameV c p k)) ∧ Below W.heap.size W w') := fun W k hW hk => l17Same_any _ c p k W (HB.out W hW).2.1 hv hp (by omega)
  obtain ⟨R, hR⟩ : ∃ R, R = repV c p := ⟨_, rfl⟩
  have HR1 : Hid (∀ k, k < p → (∀ u, u < k → sameV c p u = 0) → (sameV c p k = 1 → R = 2 * (k : Int)) ∧ (sameV c p k = -1 → R = 2 * (k : Int) + 1)) := fun k hk hn => by rw [hR]; exact repL_some hk hn
  have HR2 : Hid ((∀ u, u < p → sameV c p u = 0) → R = 2 * (p : Int)) := fun hn => by rw [hR]; exact repV_none hn
  rw [← hR]
  clear hW0 hA z1 z2 z4 hv hp hR
  go_enter Try.func67, Try.ntmps67
  go_upto_region 1 with fail
  rw [← HW.out.1, ← HW.out.2.1]
  go_upto_region 2 with fail
  go_loopw [5] (fun s5 wr => ∃ k : Nat, k ≤ p ∧ s5 = .int .i64 k ∧ (∀ u, u < k → sameV c p u = 0) ∧ Below W0.heap.size W0 wr) (fun s5 _ => p - (intOf s5).toNat)
  case atStart => exact ⟨0, Nat.zero_le _, rfl, fun u hu => by omega, Below.refl _ _⟩
  case round =>
    obtain ⟨k, hk, rfl, hno, hb⟩ := hrel
    have HK := Lib.hid (And.intro hno hb)
    have cb := (HB.out _ hb).1
    clear hno hb
    by_cases hlt : k < p
    · obtain ⟨S, hS⟩ : ∃ S, S = sameV c p k := ⟨_, rfl⟩
      have HSS := Lib.hid hS
      clear hS
      go_upto_region 5 with (go_at_call 91; ((with_reducible refine (HS.out _ k HK.out.2 hlt).mono ?_); rintro e w1 ⟨rfl, hq⟩; rw [← HSS.out]; have H1 := Lib.hid (HK.out.2.trans (hq.mono HK.out.2.size)); clear hq cb))
      rcases sameV_tri c p k with h | h | h
      · rw [← HSS.out] at h
        subst h
        go_wp2_with fail
        go_ret
        exact ⟨ret_int ((HR1.out k hlt HK.out.1).1 HSS.out.symm).symm, (HB.out _ H1.out).2.2⟩
      · rw [← HSS.out] at h
        subst h
        go_wp2_with fail
        go_ret
        exact ⟨ret_int ((HR1.out k hlt HK.out.1).2 HSS.out.symm).symm, (HB.out _ H1.out).2.2⟩
      · rw [← HSS.out] at h
        subst h
        go_wp2_with fail
        go_roundw
        case rel =>
          refine ⟨k + 1, by omega, by go_num, fun u hu => ?_, H1.out⟩
          rcases Nat.lt_or_ge u k with h2 | h2
          · exact HK.out.1 u h2
          · obtain rfl : u = k := by omega
            exact HSS.out.symm
        case measure => simp [intOf]; omega
    · obtain rfl : k = p := by omega
      go_wp2_with fail
      go_ret
      exact ⟨ret_int (HR2.out HK.out.1).symm, (HB.out _ HK.out.2).2.2⟩

set_option maxRecDepth 100000 in
set_option maxHeartbeats 6400000 in
theorem Sweep_s (v : Value) (c : Cir) (w : World) (h : CirV w v c) :
    Calls Try.prog 25 #[v] w fun e w' => ∃ vn vg vo, e = .returned (.agg #[.int .i64 (sweepR c).inp, vn, vg, vo]) ∧ CirOwn w' w.heap.size (sweepR c) vn vg vo ∧ Below w.heap.size w w' := by
  have HG := Lib.hid h
  obtain ⟨sn, cn, sg, cg, so, co, rfl, -, -, -, -, -, -⟩ := h
  obtain ⟨W0, hW0⟩ : ∃ W0, W0 = (w.alloc (.cells #[.int .i64 c.inp, .slice sn c.next.length cn, .slice sg c.gates.length cg, .slice so c.outs.length co] 28)).alloc (.cells #[.int .i64 0, .slice none 0 0, .slice none 0 0, .slice none 0 0] 28) := ⟨_, rfl⟩
  obtain ⟨A, hA⟩ : ∃ A, A = w.heap.size := ⟨_, rfl⟩
  have z1 : W0.heap.size = A + 2 := by rw [hW0, hA]; simp
  have z2 : W0.heap[A]? = some (.cells #[.int .i64 c.inp, .slice sn c.next.length cn, .slice sg c.gates.length cg, .slice so c.outs.length co] 28 (0, 0)) := by rw [hW0, hA]; exact blk_old (blk_new w _)
  have z3 : W0.heap[A + 1]? = some (.cells #[.int .i64 0, .slice none 0 0, .slice none 0 0, .slice none 0 0] 28 (0, 0)) := by rw [hW0, hA]; exact blk_at (by simp)
  have z4 : Below w.heap.size w W0 := by rw [hW0]; exact ((Below.refl _ _).alloc (Nat.le_refl _) _).alloc (by simp) _
  have HW := Lib.hid (And.intro hW0 (And.intro hA z1))
  have HB : Hid (∀ W, Below W0.heap.size W0 W → (∀ o, W.cell? ⟨A, o, none⟩ = #[Value.int .i64 c.inp, .slice sn c.next.length cn, .slice sg c.gates.length cg, .slice so c.outs.length co][o]?) ∧ W.heap[A + 1]? = some (.cells #[.int .i64 0, .slice none 0 0, .slice none 0 0, .slice none 0 0] 28 (0, 0)) ∧ CirV W (.agg #[.int .i64 c.inp, .slice sn c.next.length cn, .slice sg c.gates.length cg, .slice so c.outs.length co]) c ∧ Below w.heap.size w W) := fun W hW => ⟨(blk_all (blk_below hW (by omega) z2)).1, blk_below hW (by omega) z3, HG.out.mono (z4.trans (hW.mono z4.size)), z4.trans (hW.mono z4.size)⟩
  have HXA : Hid (∀ W, Below W0.heap.size W0 W → W.heap[A]? = some (.cells #[.int .i64 c.inp, .slice sn c.next.length cn, .slice sg c.gates.length cg, .slice so c.outs.length co] 28 (0, 0))) := fun W hW => blk_below hW (by omega) z2
  clear hW0 hA z1 z2 z3 z4
  cases hv : c.validB
  · rw [sweepR_no hv]
    have HV := Lib.hid hv
    clear hv
    go_enter Try.func25, Try.ntmps25
    go_upto_region 1 with fail
    rw [← HW.out.1, ← HW.out.2.1]
    have cb := (HB.out _ (Below.refl _ _)).1
    go_upto_region 2 with (go_at_call 20; ((with_reducible refine (CircuitValid_s _ c _ (HB.out _ (Below.refl _ _)).2.2.1).mono ?_); rintro e w1 ⟨rfl, hq⟩; rw [HV.out]; have H1 := Lib.hid hq; clear hq cb; obtain ⟨rc, rf⟩ := blk_all (HB.out _ H1.out).2.1))
    go_wp2_with fail
    have hZ : ((((w1.setCell ⟨A + 1, 0, none⟩ (.int .i64 0)).setCell ⟨A + 1, 1, none⟩ (.slice none 0 0)).setCell ⟨A + 1, 2, none⟩ (.slice none 0 0)).setCell ⟨A + 1, 3, none⟩ (.slice none 0 0)).heap[A + 1]? = some (.cells #[.int .i64 0, .slice none 0 0, .slice none 0 0, .slice none 0 0] 28 (0, 0)) := by
      simpa using blk_set (o := 3) (v := .slice none 0 0) (blk_set (o := 2) (v := .slice none 0 0) (blk_set (o := 1) (v := .slice none 0 0) (blk_set (o := 0) (v := .int .i64 0) (HB.out _ H1.out).2.1)))
    have hA2 := HW.out.2.1
    have hbz := ((((HB.out _ H1.out).2.2.2.setCell (p := ⟨A + 1, 0, none⟩) (by simp; omega) (.int .i64 0)).setCell (p := ⟨A + 1, 1, none⟩) (by simp; omega) (.slice none 0 0)).setCell (p := ⟨A + 1, 2, none⟩) (by simp; omega) (.slice none 0 0)).setCell (p := ⟨A + 1, 3, none⟩) (by simp; omega) (.slice none 0 0)
    clear rc rf
    revert hZ hbz
    generalize ((((w1.setCell ⟨A + 1, 0, none⟩ (.int .i64 0)).setCell ⟨A + 1, 1, none⟩ (.slice none 0 0)).setCell ⟨A + 1, 2, none⟩ (.slice none 0 0)).setCell ⟨A + 1, 3, none⟩ (.slice none 0 0)) = WZ
    intro hZ hbz
    have cr := (blk_all hZ).1
    exact bodyPost_ret (v := .agg #[.int .i64 0, .slice none 0 0, .slice none 0 0, .slice none 0 0]) (by simp [results, Try.results25, go_sem, cr]) rfl ⟨_, _, _, rfl, ⟨World.ownsRow_nil _ _ _ _, World.ownsRow_nil _ _ _ _, World.ownsRow_nil _ _ _ _, fun k h => by simp [Value.ownBlock] at h, by simp, by simp, by simp⟩, hbz⟩
  · rw [sweepR_yes hv]
    obtain ⟨oc, hoc⟩ : ∃ oc, oc = optC c := ⟨_, rfl⟩
    obtain ⟨sm, hsm⟩ : ∃ sm, sm = swpM oc := ⟨_, rfl⟩
    have hres : sweepC c = optC sm := by unfold sweepC; rw [hsm, hoc]
    rw [hres]
    have HRS := Lib.hid (And.intro hoc hsm)
    clear hres hoc hsm
    have HV := Lib.hid hv
    have hvv := c.validB_iff.1 hv
    have HVV := Lib.hid (And.intro hvv (buildC_valid hvv true))
    clear hv hvv
    go_enter Try.func25, Try.ntmps25
    go_upto_region 1 with fail
    rw [← HW.out.1, ← HW.out.2.1]
    have cb := (HB.out _ (Below.refl _ _)).1
    have HSZ := Lib.hid HW.out.2.2
    obtain ⟨hoc, hsm⟩ := HRS.out
    have HOV := Lib.hid (show oc.valid by rw [hoc]; exact optC_valid HVV.out.1)
    have HHO := Lib.hid (And.intro (show optR c = oc by rw [hoc]; exact optR_yes HV.out) (And.intro hsm (show sm.valid by rw [hsm]; exact swpM_valid HOV.out)))
    clear hoc hsm
    have hA2 : w.heap.size ≤ A := by have := HW.out.2.1; omega
    go_upto_region 3 with (go_at_call 20; ((with_reducible refine (CircuitValid_s _ c _ (HB.out _ (Below.refl _ _)).2.2.1).mono ?_); rintro e w1 ⟨rfl, hq⟩; rw [HV.out]; have H1 := Lib.hid hq; clear hq cb; have cb := (HB.out _ H1.out).1))
    go_upto_region 4 with (go_at_call 43; ((with_reducible refine (Optimize_s _ c _ (HB.out _ H1.out).2.2.1).mono ?_); rintro e w3 ⟨vn, vg, vo, rfl, hO, hq⟩; rw [HHO.out.1] at hO ⊢; obtain ⟨s3n, c3n, rfl⟩ := own_shape hO.n; obtain ⟨s3g, c3g, rfl⟩ := own_shape hO.g; obtain ⟨s3o, c3o, rfl⟩ := own_shape hO.o; have H3 := Lib.hid (And.intro hO (H1.out.trans (hq.mono H1.out.size))); clear hO hq cb; obtain ⟨ac, af⟩ := blk_all (HXA.out _ H3.out.2)))
    clear ac af
    have hO4 := (H3.out.1).sets4 (r := A) (by have h1 := HW.out.2.2; have h2 := HSZ.out; have h3 := H1.out.size; omega) (base := W0.heap.size) H1.out.size (a := .int .i64 oc.inp) (b' := .slice s3n oc.next.length c3n) (c' := .slice s3g oc.gates.length c3g) (d := .slice s3o oc.outs.length c3o)
    have hZ4 : (((((w3.setCell ⟨A, 0, none⟩ (.int .i64 oc.inp)).setCell ⟨A, 1, none⟩ (.slice s3n oc.next.length c3n)).setCell ⟨A, 2, none⟩ (.slice s3g oc.gates.length c3g)).setCell ⟨A, 3, none⟩ (.slice s3o oc.outs.length c3o))).heap[A]? = some (.cells #[.int .i64 oc.inp, .slice s3n oc.next.length c3n, .slice s3g oc.gates.length c3g, .slice s3o oc.outs.length c3o] 28 (0, 0)) := by simpa using blk_set (o := 3) (v := .slice s3o oc.outs.length c3o) (blk_set (o := 2) (v := .slice s3g oc.gates.length c3g) (blk_set (o := 1) (v := .slice s3n oc.next.length c3n) (blk_set (o := 0) (v := .int .i64 oc.inp) (HXA.out _ H3.out.2))))
    have hR4 : (((((w3.setCell ⟨A, 0, none⟩ (.int .i64 oc.inp)).setCell ⟨A, 1, none⟩ (.slice s3n oc.next.length c3n)).setCell ⟨A, 2, none⟩ (.slice s3g oc.gates.length c3g)).setCell ⟨A, 3, none⟩ (.slice s3o oc.outs.length c3o))).heap[A + 1]? = some (.cells #[.int .i64 0, .slice none 0 0, .slice none 0 0, .slice none 0 0] 28 (0, 0)) := blk_oth (blk_oth (blk_oth (blk_oth (HB.out _ H3.out.2).2.1 (by simp)) (by simp)) (by simp)) (by simp)
    have hb4 := ((((HB.out _ H3.out.2).2.2.2.setCell (p := ⟨A, 0, none⟩) (by simp; omega) (.int .i64 oc.inp)).setCell (p := ⟨A, 1, none⟩) (by simp; omega) (.slice s3n oc.next.length c3n)).setCell (p := ⟨A, 2, none⟩) (by simp; omega) (.slice s3g oc.gates.length c3g)).setCell (p := ⟨A, 3, none⟩) (by simp; omega) (.slice s3o oc.outs.length c3o)
    revert hO4 hZ4 hR4 hb4
    generalize (((((w3.setCell ⟨A, 0, none⟩ (.int .i64 oc.inp)).setCell ⟨A, 1, none⟩ (.slice s3n oc.next.length c3n)).setCell ⟨A, 2, none⟩ (.slice s3g oc.gates.length c3g)).setCell ⟨A, 3, none⟩ (.slice s3o oc.outs.length c3o))) = W4
    intro hO4 hZ4 hR4 hb4
    have hZ4l := blk_lt hZ4
    have hR4l := blk_lt hR4
    have H4 := Lib.hid (And.intro hO4 (And.intro hZ4 (And.intro hR4 hb4)))
    have H := Lib.hid (And.intro (own_sl hO4.n) (And.intro (own_sl hO4.g) (And.intro (own_sl hO4.o) HOV.out)))
    have HC4 : Hid (∀ W, Below W4.heap.size W4 W → CirV W (.agg #[.int .i64 oc.inp, .slice s3n oc.next.length c3n, .slice s3g oc.gates.length c3g, .slice s3o oc.outs.length c3o]) oc) := fun W hW => ⟨_, _, _, _, _, _, rfl, (own_sl hO4.n).mono hW, (own_sl hO4.g).mono hW, (own_sl hO4.o).mono hW, hO4.l1, hO4.l2, hO4.l3⟩
    clear hO4 hZ4 hR4 hb4
    obtain ⟨i0, i1, l1, l2, l3⟩ := HOV.out.lim
    obtain ⟨V, hV⟩ : ∃ V : Nat, oc.vars = V := ⟨oc.vars.toNat, by unfold Cir.vars; omega⟩
    have v22 : V ≤ 22 := by unfold Cir.vars at hV; omega
    obtain ⟨F, hF⟩ : ∃ F : Nat, 1 + oc.inp + (oc.next.length : Int) = F := ⟨(1 + oc.inp + (oc.next.length : Int)).toNat, by omega⟩
    have E1 := Lib.hid hF
    have w1' : IntKind.i64.wrap ((F : Int) + (oc.gates.length : Int)) = (V : Int) := by unfold Cir.vars at hV; rw [IntWalk.i64_in _ ⟨by omega, by omega⟩]; omega
    have HVV2 := Lib.hid hV
    have f8 : F ≤ 8 := by omega
    have g14 : oc.gates.length ≤ 14 := l2
    have n3 : oc.next.length ≤ 3 := l1
    have o3 : oc.outs.length ≤ 3 := l3
    clear hV hF l1 l2 l3
    obtain ⟨G, hG⟩ : ∃ G, W4.heap.size = G := ⟨_, rfl⟩
    have kG := blk_new W4 (.cells #[] 3)
    have bG := (Below.refl W4.heap.size W4).alloc (Nat.le_refl _) (.cells #[] 3)
    go_wp2_with fail
    rw [hG] at kG bG hZ4l hR4l
    try rw [hG]
    revert kG bG
    generalize W4.alloc (.cells #[] 3) = WA
    intro kG bG
    have HG4 := Lib.hid hG
    have HGA := Lib.hid (And.intro kG (And.intro bG (blk_below (B := G) bG hZ4l H4.out.2.1)))
    have hGA := blk_lt kG
    clear kG bG hG
    go_loopw [4, 3] (fun i x wr => ∃ (k : Nat) (s : Option Addr) (cc : Nat), k ≤ V ∧ i = .int .i64 k ∧ x = .slice s k cc ∧ wr.ownsRow G 3 1 x k (ints (mS oc k)) ∧ Below G WA wr) (fun i _ _ => V - (intOf i).toNat)
    case atStart => exact ⟨0, _, _, Nat.zero_le _, rfl, rfl, own_of_blk (n := 0) (cur := #[]) HGA.out.1 (Nat.le_refl _) (by simp) (by unfold maxLen; omega), Below.refl _ _⟩
    case round =>
      obtain ⟨k, s, cc, hk, rfl, rfl, ho, hbl⟩ := hrel
      have hbG4 : Below G W4 wr := HGA.out.2.1.trans (hbl.mono (Nat.le_refl _))
      have hbox := blk_below hbG4 hZ4l H4.out.2.1
      have hsz : G < wr.heap.size := Nat.lt_of_lt_of_le hGA hbl.size
      have hlb := blk_lt hbox
      have HR := Lib.hid (And.intro ho (And.intro hbl (And.intro hbox hbG4)))
      clear ho hbl hbox hbG4
      go_upto_region 6 with fail
      go_cut [23] from 16 to 23 (fun s23 wx => s23 = .bool (decide ((k : Int) < (V : Int))) ∧ Below wr.heap.size wr wx)
      case first =>
        refine wp_region_ord (fun w' => ∀ q, w'.cell? ⟨A, q, none⟩ = #[Value.int .i64 oc.inp, .slice s3n oc.next.length c3n, .slice s3g oc.gates.length c3g, .slice s3o oc.outs.length c3o][q]?) ((0, false) :: (1, false) :: (3, false) :: (4, false) :: (5, false) :: (2, true) :: (6, false) :: (7, false) :: []) (by kernel_rfl) (by kernel_rfl) (by kernel_rfl) (by kernel_rfl) (blk_all HR.out.2.2.1).1 ?_
        repeat (first | (refine ord_es (o := ?_) ?_ ?_ (by assumption) ?_; rotate_left 1; (focus ((simp only [zD, zE, zF]) <;> rfl)); (focus rfl); simp only [Act.put, zA, zB, zC]) | (refine ord_s (o := ?_) ?_ ?_ ?_; rotate_left 1; (focus ((simp only [zD, zE, zF]) <;> rfl)); (focus rfl); simp only [Act.put, zA, zB, zC]) | (refine ord_q (o := ?_) (v := ?_) ?_ ?_ ?_ ?_; rotate_left 2; (focus ((simp only [zD, zE, zF]) <;> rfl)); (focus rfl); (focus (intro w' hS; (try dsimp only at hS); go_split_ands; go_simp; (try (with_reducible rfl)))); simp only [Act.put, zA, zB, zC]))
        (refine ord_e (o := ?_) ?_ ?_ (fun K hK => ?_); rotate_left 1; (focus ((simp only [zD, zE, zF]) <;> rfl)); (focus rfl); go_simp)
        refine (l1First_any _ _ _ _ _ _ _ (by omega) (by omega)).mono ?_
        rintro e w2 ⟨rfl, hq⟩
        rw [E1.out]
        have hb2 : Below wr.heap.size wr w2 := (Below.refl _ _).drew.trans hq
        refine hK.out _ _ (blk_all (blk_below hb2 hlb HR.out.2.2.1)).1 ?_
        clear hK K hq
        have H2 := Lib.hid hb2
        clear hb2
        (try simp only [Act.put, zA, zB, zC])
        repeat (first | (refine ord_es (o := ?_) ?_ ?_ (by assumption) ?_; rotate_left 1; (focus ((simp only [zD, zE, zF]) <;> rfl)); (focus rfl); simp only [Act.put, zA, zB, zC]) | (refine ord_s (o := ?_) ?_ ?_ ?_; rotate_left 1; (focus ((simp only [zD, zE, zF]) <;> rfl)); (focus rfl); simp only [Act.put, zA, zB, zC]) | (refine ord_q (o := ?_) (v := ?_) ?_ ?_ ?_ ?_; rotate_left 2; (focus ((simp only [zD, zE, zF]) <;> rfl)); (focus rfl); (focus (intro w' hS; (try dsimp only at hS); go_split_ands; go_simp; (try (with_reducible rfl)))); simp only [Act.put, zA, zB, zC]))
        refine ord_nil ?_
        go_wp2_with fail
        go_meet
        exact ⟨by simp, H2.out⟩
      case rest =>
        obtain ⟨rfl, hb2⟩ := hcut
        have HX := Lib.hid (And.intro (own_below HR.out.1 hb2) (And.intro (HR.out.2.1.trans (hb2.mono (by omega))) (And.intro (show G < wc.heap.size from Nat.lt_of_lt_of_le hsz hb2.size) (And.intro (HR.out.2.2.2.trans (hb2.mono (by omega))) (blk_below hb2 hlb HR.out.2.2.1)))))
        have hcs := HX.out.2.2.1
        clear hb2 w1'
        by_cases hlt : (k : Int) < (V : Int)
        · rw [decide_eq_true hlt]
          have cb := (blk_all HX.out.2.2.2.2).1
          have hkV : k < V := by omega
          go_wp2_with (first
            | (go_at_call 67; ((with_reducible refine (l17Literal_any _ oc k _ (HC4.out _ (by rw [HG4.out]; exact HX.out.2.2.2.1)) HOV.out (by rw [HVV2.out]; omega)).mono ?_); rintro e w5 ⟨rfl, hq⟩; have H5 := Lib.hid (And.intro (own_below HX.out.1 hq) (And.intro (HX.out.2.1.trans (hq.mono (by omega))) hq.size)); have hs5 := Nat.lt_of_lt_of_le hcs hq.size; clear hq cb))
            | (at_builtin; refine wpl_app rfl _ _ rfl elem_int (own_below H5.out.1 ((Below.refl _ _).alloc (Nat.le_refl _) _)) rfl rfl rfl (Sl.new _ _ _) (by simp [Value.oneCell']) (k + 1) rfl (ints (mS oc (k + 1))) (by rw [mS_succ, ← ints_append]; rfl) (by unfold maxLen; omega) (by omega) (by simp; omega) ?_; intro s6 c6 w6 h6 hb6 _ _; have HA6 := Lib.hid (And.intro h6 hb6); clear h6 hb6))
          go_roundw
          case rel => exact ⟨k + 1, s6, c6, by omega, by go_num, rfl, HA6.out.1, (H5.out.2.1.alloc (by omega) _).trans HA6.out.2⟩
          case measure => simp [intOf]; omega
        · rw [decide_eq_false hlt]
          obtain rfl : V = k := by omega
          have cb := (blk_all HX.out.2.2.2.2).1
          obtain ⟨f, hf⟩ : ∃ f, f = swpL oc := ⟨_, rfl⟩
          have HFF := Lib.hid hf
          clear hf
          obtain ⟨B, hB⟩ : ∃ B, wc.heap.size = B := ⟨_, rfl⟩
          have hb3 : Below B wc (wc.alloc (.cells #[.int .i64 oc.inp, .slice none 0 0, .slice none 0 0, .slice none 0 0] 28)) := by rw [← hB]; exact (Below.refl _ _).alloc (Nat.le_refl _) _
          have hn3 : (wc.alloc (.cells #[.int .i64 oc.inp, .slice none 0 0, .slice none 0 0, .slice none 0 0] 28)).heap[B]? = some (.cells #[.int .i64 oc.inp, .slice none 0 0, .slice none 0 0, .slice none 0 0] 28 (0, 0)) := by rw [← hB]; exact blk_new _ _
          go_wp2_with fail
          clear cb
          rw [hB] at hcs
          try rw [hB]
          revert hb3 hn3
          generalize wc.alloc (.cells #[.int .i64 oc.inp, .slice none 0 0, .slice none 0 0, .slice none 0 0] 28) = W3
          intro hb3 hn3
          have hBz : W4.heap.size < B := by rw [HG4.out]; exact hcs
          have hBw : A < B := by omega
          have hBr : A + 1 < B := by omega
          have hsl := own_sl HX.out.1
          have hW3 : OutC W3 B B oc.inp [] [] [] (.slice none 0 0) (.slice none 0 0) (.slice none 0 0) := ⟨hn3, World.ownsRow_nil _ _ _ _, World.ownsRow_nil _ _ _ _, World.ownsRow_nil _ _ _ _, (fun k hk => by cases hk)⟩
          have hb43 : Below W4.heap.size W4 W3 := by rw [HG4.out]; exact HX.out.2.2.2.1.trans (hb3.mono (Nat.le_of_lt hcs))
          have HW3 := Lib.hid (And.intro hb43 (And.intro (blk_below hb3 hBw HX.out.2.2.2.2) (And.intro hW3 (blk_below hb43 (by rw [HG4.out]; exact hR4l) H4.out.2.2.1))))
          have HLM : Hid (∀ W (l : Int), Below B W3 W → 0 ≤ l → l / 2 < oc.vars → Calls Try.prog 46 #[.slice s V cc, .int .i64 l] W fun e w' => e = .returned (.int .i64 (f l)) ∧ W = w') := fun W l hW h0 h1 => by
            rw [HVV2.out] at h1
            have := l3MapM_any s cc V (mS oc V) l W (mS_length _ _) (hsl.mono' (B := B) (fun a ha _ => by rw [← hB]; exact (own_blk HX.out.1 (by rw [ha]; rfl)).2) (hb3.trans hW)) h0 h1 (by omega) (fun x hx => by have := mS_mem hx; omega)
            rw [mS_map h0 h1, ← HFF.out] at this
            exact this
          clear hb3 hn3 hW3 hb43 hB hsl hZ4l hR4l
          have cb := (blk_all HW3.out.2.1).1
          go_wp2_with fail
          clear cb
          go_loopw [6] (fun i wr => ∃ (k : Nat) (s : Option Addr) (cc : Nat), k ≤ oc.gates.length ∧ i = .int .i64 k ∧ OutC wr B B oc.inp [] (mapG f (oc.gates.take k)) [] (.slice none 0 0) (.slice s k cc) (.slice none 0 0) ∧ Below B W3 wr) (fun i _ => oc.gates.length - (intOf i).toNat)
          case atStart => exact ⟨0, _, _, Nat.zero_le _, rfl, HW3.out.2.2.1, Below.refl _ _⟩
          case round =>
            obtain ⟨k, s, cc, hk, rfl, hO, hbl⟩ := hrel
            have hbox := blk_below hbl hBw HW3.out.2.1
            have hsz : B < wr.heap.size := blk_lt hO.blk
            have hlk : (mapG f (oc.gates.take k)).length = k := by simp [mapG]; omega
            have hlk1 : k < oc.gates.length → (mapG f (oc.gates.take (k + 1))).length = k + 1 := fun h => by simp [mapG]; omega
            have cb := (blk_all hbox).1
            by_cases hlt : k < oc.gates.length
            · obtain ⟨g, hg⟩ := get_of_lt hlt
              obtain ⟨gb, gf, rfl, hgb, zx, zy⟩ := H.out.2.1.gate (Below.refl _ _) hg
              obtain ⟨⟨a0, a1⟩, b0, b1⟩ := valid_gate H.out.2.2.2 hg
              have hfv := (valid_first H.out.2.2.2).2.2.1
              have hS : ∀ W, Below B W3 W → W.heap[B]? = some (.cells #[Value.int .i64 oc.inp, .slice none 0 0, .slice s k cc, .slice none 0 0] 28 (0, 0)) → (fun w' => (∀ o, w'.cell? ⟨B, o, none⟩ = #[Value.int .i64 oc.inp, .slice none 0 0, .slice s k cc, .slice none 0 0][o]?) ∧ (∀ o, w'.cell? ⟨A, o, none⟩ = #[Value.int .i64 oc.inp, Value.slice s3n oc.next.length c3n, Value.slice (some ⟨gb, gf, none⟩) oc.gates.length c3g, Value.slice s3o oc.outs.length c3o][o]?) ∧ w'.cell? ⟨gb, gf + k * 2, none⟩ = some (.int .i64 g.a) ∧ w'.cell? ⟨gb, gf + k * 2 + 1, none⟩ = some (.int .i64 g.b)) W := fun W hW hB => ⟨(blk_all hB).1, (blk_all (blk_below hW hBw HW3.out.2.1)).1, ((HW3.out.1.trans (hW.mono (Nat.le_of_lt hBz))).cell (p := ⟨gb, gf + k * 2, none⟩) hgb).trans zx, ((HW3.out.1.trans (hW.mono (Nat.le_of_lt hBz))).cell (p := ⟨gb, gf + k * 2 + 1, none⟩) hgb).trans zy⟩
              have HR := Lib.hid (And.intro hO (And.intro hbl (And.intro hg (And.intro hlk (And.intro (hlk1 hlt) (And.intro (show g.a / 2 < oc.vars ∧ g.b / 2 < oc.vars by omega) hS))))))
              clear hg a1 b1 hfv zx zy hgb
              clear hO hlk hlk1 hbl hbox hS
              go_upto_region 13 with fail
              clear cb
              refine wp_region_E (fun w' => (∀ o, w'.cell? ⟨B, o, none⟩ = #[Value.int .i64 oc.inp, .slice none 0 0, .slice s k cc, .slice none 0 0][o]?) ∧ (∀ o, w'.cell? ⟨A, o, none⟩ = #[Value.int .i64 oc.inp, Value.slice s3n oc.next.length c3n, Value.slice (some ⟨gb, gf, none⟩) oc.gates.length c3g, Value.slice s3o oc.outs.length c3o][o]?) ∧ w'.cell? ⟨gb, gf + k * 2, none⟩ = some (.int .i64 g.a) ∧ w'.cell? ⟨gb, gf + k * 2 + 1, none⟩ = some (.int .i64 g.b)) 22 (.q 0 (.q 1 (.q 2 (.q 3 (.q 4 (.q 5 (.q 6 (.q 7 (.q 8 (.q 10 (.q 11 (.q 12 (.q 13 (.q 14 (.q 15 (.q 16 (.e 9 (.e 17 (.q 18 (.e 19 (.e 20 (.q 21 (.z 22))))))))))))))))))))))) (by kernel_rfl) (by kernel_rfl) (by kernel_rfl) (by kernel_rfl) (by kernel_rfl) (by kernel_rfl) (HR.out.2.2.2.2.2.2 _ HR.out.2.1.drew HR.out.1.blk) ?_
              repeat (first | (refine orde_s (o := ?_) ?_ ?_ ?_; rotate_left 1; (focus ((simp only [zD, zE, zF]) <;> rfl)); (focus rfl); simp only [Act.put, zA, zB, zC]) | (refine orde_q (o := ?_) (v := ?_) ?_ ?_ ?_ ?_; rotate_left 2; (focus ((simp only [zD, zE, zF]) <;> rfl)); (focus rfl); (focus (intro w' hS; (try dsimp only at hS); go_split_ands; go_simp; (try (with_reducible rfl)))); simp only [Act.put, zA, zB, zC]))
              refine orde_e ?_
              (refine ope_e (o := ?_) ?_ ?_ (fun K hK => ?_); rotate_left 1; (focus ((simp only [zD, zE, zF]) <;> rfl)); (focus rfl); go_simp)
              refine (HLM.out _ (g.a) HR.out.2.1.drew a0 HR.out.2.2.2.2.2.1.1).mono ?_
              rintro e wa ⟨rfl, rfl⟩
              refine hK.out _ _ (HR.out.2.2.2.2.2.2 _ HR.out.2.1.drew HR.out.1.blk) ?_
              clear hK K
              (try simp only [Act.put, zA, zB, zC])
              refine orde_e ?_
              (refine ope_e (o := ?_) ?_ ?_ (fun K hK => ?_); rotate_left 1; (focus ((simp only [zD, zE, zF]) <;> rfl)); (focus rfl); go_simp)
              refine (HLM.out _ (g.b) HR.out.2.1.drew b0 HR.out.2.2.2.2.2.1.2).mono ?_
              rintro e wa ⟨rfl, rfl⟩
              refine hK.out _ _ (HR.out.2.2.2.2.2.2 _ HR.out.2.1.drew HR.out.1.blk) ?_
              clear hK K
              (try simp only [Act.put, zA, zB, zC])
              repeat (first | (refine orde_s (o := ?_) ?_ ?_ ?_; rotate_left 1; (focus ((simp only [zD, zE, zF]) <;> rfl)); (focus rfl); simp only [Act.put, zA, zB, zC]) | (refine orde_q (o := ?_) (v := ?_) ?_ ?_ ?_ ?_; rotate_left 2; (focus ((simp only [zD, zE, zF]) <;> rfl)); (focus rfl); (focus (intro w' hS; (try dsimp only at hS); go_split_ands; go_simp; (try (with_reducible rfl)))); simp only [Act.put, zA, zB, zC]))
              refine orde_e ?_
              (refine ope_e (o := ?_) ?_ ?_ (fun K hK => ?_); rotate_left 1; (focus ((simp only [zD, zE, zF]) <;> rfl)); (focus rfl); go_simp)
              have hb1 : Below wr.heap.size wr (wr.alloc (.cells #[.int .i64 (f g.a), .int .i64 (f g.b)] 24)).drew := ((Below.refl _ _).alloc (Nat.le_refl _) _).drew
              have hs1 : Sl (wr.alloc (.cells #[.int .i64 (f g.a), .int .i64 (f g.b)] 24)).drew (some ⟨wr.heap.size, 0, none⟩) [.int .i64 (f g.a), .int .i64 (f g.b)] := (Sl.new wr _ _).drew
              revert hb1 hs1
              generalize (wr.alloc (.cells #[.int .i64 (f g.a), .int .i64 (f g.b)] 24)).drew = W1
              intro hb1 hs1
              have hO1 := HR.out.1.below hb1
              have hB1 := HR.out.2.1.trans (hb1.mono (Nat.le_of_lt hsz))
              refine hK.out _ _ (HR.out.2.2.2.2.2.2 _ hB1 hO1.blk) ?_
              clear hK K
              have HW1 := Lib.hid (And.intro hO1 (And.intro hs1 hB1))
              have hs1z : B < W1.heap.size := blk_lt hO1.blk
              clear hO1 hb1 hs1 hB1
              (try simp only [Act.put, zA, zB, zC])
              refine orde_e ?_
              (refine ope_e (o := ?_) ?_ ?_ (fun K hK => ?_); rotate_left 1; (focus ((simp only [zD, zE, zF]) <;> rfl)); (focus rfl))
              refine wp_app (.tmp 43) (.tmp 61) rfl elem_gate (by have h1 := HW1.out.1.g; rw [HR.out.2.2.2.1] at h1; exact h1) rfl rfl (by simp) HW1.out.2.1 (by simp [Value.oneCell']) (k + 1) rfl (gcells (mapG f (oc.gates.take (k + 1)))) (by rw [mapG_snoc HR.out.2.2.1, ← gcells_append]; rfl) (by unfold maxLen; omega) (by omega) (by omega) ?_
              intro s6 c6 W2 ho6 hb6 hg6 hob6
              obtain ⟨hB2, hO2⟩ := HW1.out.1.pushG hg6 (xg' := (mapG f (oc.gates.take (k + 1)))) (by rw [HR.out.2.2.2.2.1]; exact ho6)
              have hbb := HW1.out.2.2.trans hb6
              refine hK.out _ _ (HR.out.2.2.2.2.2.2 _ hbb hB2) ?_
              clear hK K
              have y1 : W2.cell? ⟨B, 2, none⟩ = some (.slice s k cc) := blk_cell hB2
              have y2 : W2.frozen? ⟨B, 2, none⟩ = false := blk_free hB2
              have HW2 := Lib.hid (And.intro hO2 hbb)
              clear hB2 hO2 ho6 hb6 hg6 hob6 hbb
              (try simp only [Act.put, zA, zB, zC])
              repeat (first | (refine orde_s (o := ?_) ?_ ?_ ?_; rotate_left 1; (focus ((simp only [zD, zE, zF]) <;> rfl)); (focus rfl); simp only [Act.put, zA, zB, zC]) | (refine orde_q (o := ?_) (v := ?_) ?_ ?_ ?_ ?_; rotate_left 2; (focus ((simp only [zD, zE, zF]) <;> rfl)); (focus rfl); (focus (intro w' hS; (try dsimp only at hS); go_split_ands; go_simp; (try (with_reducible rfl)))); simp only [Act.put, zA, zB, zC]))
              (refine orde_z (o := ?_) ?_ ?_ (fun K hK => ?_); rotate_left 1; (focus ((simp only [zD, zE, zF]) <;> rfl)); (focus rfl); go_simp)
              refine hK.out _ _ ?_
              clear hK K y1 y2
              go_wp2_with fail
              go_roundw
              case rel => exact ⟨k + 1, s6, c6, by omega, by go_num, HW2.out.1, HW2.out.2.setCell (p := ⟨B, 2, none⟩) (Nat.le_refl _) _⟩
              case measure => simp [intOf]; omega
            · obtain rfl : k = oc.gates.length := by omega
              rw [List.take_length] at hO
              obtain ⟨vX1, hvX⟩ : ∃ vX, vX = Value.slice s oc.gates.length cc := ⟨_, rfl⟩
              rw [← hvX] at hO
              have HvX1 : Hid (∃ s' c', vX1 = Value.slice s' oc.gates.length c') := ⟨_, _, hvX⟩
              have HY1 := Lib.hid (And.intro hO hbl)
              clear hO hbl hlk hlk1 hvX hbox
              go_wp2_with fail
              clear cb
              go_loopw [7] (fun i wr => ∃ (k : Nat) (s : Option Addr) (cc : Nat), k ≤ oc.next.length ∧ i = .int .i64 k ∧ OutC wr B B oc.inp ((oc.next.take k).map f) (mapG f oc.gates) [] (.slice s k cc) (vX1) (.slice none 0 0) ∧ Below B W3 wr) (fun i _ => oc.next.length - (intOf i).toNat)
              case atStart => exact ⟨0, _, _, Nat.zero_le _, rfl, HY1.out.1, HY1.out.2⟩
              case round =>
                obtain ⟨k, s, cc, hk, rfl, hO, hbl⟩ := hrel
                have hbox := blk_below hbl hBw HW3.out.2.1
                have hsz : B < wr.heap.size := blk_lt hO.blk
                have hlk : ((oc.next.take k).map f).length = k := by simp; omega
                have hlk1 : k < oc.next.length → ((oc.next.take (k + 1)).map f).length = k + 1 := fun h => by simp; omega
                have cb := (blk_all hbox).1
                by_cases hlt : k < oc.next.length
                · obtain ⟨x, hx⟩ := get_of_lt hlt
                  obtain ⟨xb, xf, rfl, hxb, zx⟩ := H.out.1.int (Below.refl _ _) hx
                  obtain ⟨x0, x1⟩ : 0 ≤ x ∧ x < 2 * oc.vars := H.out.2.2.2.next x (List.mem_of_getElem? hx)
                  have hS : ∀ W, Below B W3 W → W.heap[B]? = some (.cells #[Value.int .i64 oc.inp, .slice s k cc, vX1, .slice none 0 0] 28 (0, 0)) → (fun w' => (∀ o, w'.cell? ⟨B, o, none⟩ = #[Value.int .i64 oc.inp, .slice s k cc, vX1, .slice none 0 0][o]?) ∧ (∀ o, w'.cell? ⟨A, o, none⟩ = #[Value.int .i64 oc.inp, Value.slice (some ⟨xb, xf, none⟩) oc.next.length c3n, Value.slice s3g oc.gates.length c3g, Value.slice s3o oc.outs.length c3o][o]?) ∧ w'.cell? ⟨xb, xf + k, none⟩ = some (.int .i64 x)) W := fun W hW hB => ⟨(blk_all hB).1, (blk_all (blk_below hW hBw HW3.out.2.1)).1, ((HW3.out.1.trans (hW.mono (Nat.le_of_lt hBz))).cell (p := ⟨xb, xf + k, none⟩) hxb).trans zx⟩
                  have HR := Lib.hid (And.intro hO (And.intro hbl (And.intro hx (And.intro hlk (And.intro (hlk1 hlt) (And.intro (show x / 2 < oc.vars by omega) hS))))))
                  clear hx x1 zx hxb
                  clear hO hlk hlk1 hbl hbox hS
                  go_upto_region 17 with fail
                  clear cb
                  refine wp_region_E (fun w' => (∀ o, w'.cell? ⟨B, o, none⟩ = #[Value.int .i64 oc.inp, .slice s k cc, vX1, .slice none 0 0][o]?) ∧ (∀ o, w'.cell? ⟨A, o, none⟩ = #[Value.int .i64 oc.inp, Value.slice (some ⟨xb, xf, none⟩) oc.next.length c3n, Value.slice s3g oc.gates.length c3g, Value.slice s3o oc.outs.length c3o][o]?) ∧ w'.cell? ⟨xb, xf + k, none⟩ = some (.int .i64 x)) 12 (.q 0 (.q 1 (.q 2 (.q 3 (.q 4 (.q 5 (.q 6 (.q 7 (.e 8 (.e 9 (.e 10 (.q 11 (.z 12))))))))))))) (by kernel_rfl) (by kernel_rfl) (by kernel_rfl) (by kernel_rfl) (by kernel_rfl) (by kernel_rfl) (HR.out.2.2.2.2.2.2 _ HR.out.2.1.drew HR.out.1.blk) ?_
                  repeat (first | (refine orde_s (o := ?_) ?_ ?_ ?_; rotate_left 1; (focus ((simp only [zD, zE, zF]) <;> rfl)); (focus rfl); simp only [Act.put, zA, zB, zC]) | (refine orde_q (o := ?_) (v := ?_) ?_ ?_ ?_ ?_; rotate_left 2; (focus ((simp only [zD, zE, zF]) <;> rfl)); (focus rfl); (focus (intro w' hS; (try dsimp only at hS); go_split_ands; go_simp; (try (with_reducible rfl)))); simp only [Act.put, zA, zB, zC]))
                  refine orde_e ?_
                  (refine ope_e (o := ?_) ?_ ?_ (fun K hK => ?_); rotate_left 1; (focus ((simp only [zD, zE, zF]) <;> rfl)); (focus rfl); go_simp)
                  refine (HLM.out _ (x) HR.out.2.1.drew x0 HR.out.2.2.2.2.2.1).mono ?_
                  rintro e wa ⟨rfl, rfl⟩
                  refine hK.out _ _ (HR.out.2.2.2.2.2.2 _ HR.out.2.1.drew HR.out.1.blk) ?_
                  clear hK K
                  (try simp only [Act.put, zA, zB, zC])
                  refine orde_e ?_
                  (refine ope_e (o := ?_) ?_ ?_ (fun K hK => ?_); rotate_left 1; (focus ((simp only [zD, zE, zF]) <;> rfl)); (focus rfl); go_simp)
                  have hb1 : Below wr.heap.size wr (wr.alloc (.cells #[.int .i64 (f x)] 3)).drew := ((Below.refl _ _).alloc (Nat.le_refl _) _).drew
                  have hs1 : Sl (wr.alloc (.cells #[.int .i64 (f x)] 3)).drew (some ⟨wr.heap.size, 0, none⟩) [.int .i64 (f x)] := (Sl.new wr _ _).drew
                  revert hb1 hs1
                  generalize (wr.alloc (.cells #[.int .i64 (f x)] 3)).drew = W1
                  intro hb1 hs1
                  have hO1 := HR.out.1.below hb1
                  have hB1 := HR.out.2.1.trans (hb1.mono (Nat.le_of_lt hsz))
                  refine hK.out _ _ (HR.out.2.2.2.2.2.2 _ hB1 hO1.blk) ?_
                  clear hK K
                  have HW1 := Lib.hid (And.intro hO1 (And.intro hs1 hB1))
                  have hs1z : B < W1.heap.size := blk_lt hO1.blk
                  clear hO1 hb1 hs1 hB1
                  (try simp only [Act.put, zA, zB, zC])
                  refine orde_e ?_
                  (refine ope_e (o := ?_) ?_ ?_ (fun K hK => ?_); rotate_left 1; (focus ((simp only [zD, zE, zF]) <;> rfl)); (focus rfl))
                  refine wp_app (.tmp 72) (.tmp 80) rfl elem_int (by have h1 := HW1.out.1.n; rw [HR.out.2.2.2.1] at h1; exact h1) rfl rfl (by simp) HW1.out.2.1 (by simp [Value.oneCell']) (k + 1) rfl (ints ((oc.next.take (k + 1)).map f)) (by rw [map_snoc HR.out.2.2.1, ← ints_append]; rfl) (by unfold maxLen; omega) (by omega) (by omega) ?_
                  intro s6 c6 W2 ho6 hb6 hg6 hob6
                  obtain ⟨hB2, hO2⟩ := HW1.out.1.pushN hg6 (xn' := ((oc.next.take (k + 1)).map f)) (by rw [HR.out.2.2.2.2.1]; exact ho6) hob6
                  have hbb := HW1.out.2.2.trans hb6
                  refine hK.out _ _ (HR.out.2.2.2.2.2.2 _ hbb hB2) ?_
                  clear hK K
                  have y1 : W2.cell? ⟨B, 1, none⟩ = some (.slice s k cc) := blk_cell hB2
                  have y2 : W2.frozen? ⟨B, 1, none⟩ = false := blk_free hB2
                  have HW2 := Lib.hid (And.intro hO2 hbb)
                  clear hB2 hO2 ho6 hb6 hg6 hob6 hbb
                  (try simp only [Act.put, zA, zB, zC])
                  repeat (first | (refine orde_s (o := ?_) ?_ ?_ ?_; rotate_left 1; (focus ((simp only [zD, zE, zF]) <;> rfl)); (focus rfl); simp only [Act.put, zA, zB, zC]) | (refine orde_q (o := ?_) (v := ?_) ?_ ?_ ?_ ?_; rotate_left 2; (focus ((simp only [zD, zE, zF]) <;> rfl)); (focus rfl); (focus (intro w' hS; (try dsimp only at hS); go_split_ands; go_simp; (try (with_reducible rfl)))); simp only [Act.put, zA, zB, zC]))
                  (refine orde_z (o := ?_) ?_ ?_ (fun K hK => ?_); rotate_left 1; (focus ((simp only [zD, zE, zF]) <;> rfl)); (focus rfl); go_simp)
                  refine hK.out _ _ ?_
                  clear hK K y1 y2
                  go_wp2_with fail
                  go_roundw
                  case rel => exact ⟨k + 1, s6, c6, by omega, by go_num, HW2.out.1, HW2.out.2.setCell (p := ⟨B, 1, none⟩) (Nat.le_refl _) _⟩
                  case measure => simp [intOf]; omega
                · obtain rfl : k = oc.next.length := by omega
                  rw [List.take_length] at hO
                  obtain ⟨vX2, hvX⟩ : ∃ vX, vX = Value.slice s oc.next.length cc := ⟨_, rfl⟩
                  rw [← hvX] at hO
                  have HvX2 : Hid (∃ s' c', vX2 = Value.slice s' oc.next.length c') := ⟨_, _, hvX⟩
                  have HY2 := Lib.hid (And.intro hO hbl)
                  clear hO hbl hlk hlk1 hvX hbox
                  go_wp2_with fail
                  clear cb
                  go_loopw [8] (fun i wr => ∃ (k : Nat) (s : Option Addr) (cc : Nat), k ≤ oc.outs.length ∧ i = .int .i64 k ∧ OutC wr B B oc.inp (oc.next.map f) (mapG f oc.gates) ((oc.outs.take k).map f) (vX2) (vX1) (.slice s k cc) ∧ Below B W3 wr) (fun i _ => oc.outs.length - (intOf i).toNat)
                  case atStart => exact ⟨0, _, _, Nat.zero_le _, rfl, HY2.out.1, HY2.out.2⟩
                  case round =>
                    obtain ⟨k, s, cc, hk, rfl, hO, hbl⟩ := hrel
                    have hbox := blk_below hbl hBw HW3.out.2.1
                    have hsz : B < wr.heap.size := blk_lt hO.blk
                    have hlk : ((oc.outs.take k).map f).length = k := by simp; omega
                    have hlk1 : k < oc.outs.length → ((oc.outs.take (k + 1)).map f).length = k + 1 := fun h => by simp; omega
                    have cb := (blk_all hbox).1
                    by_cases hlt : k < oc.outs.length
                    · obtain ⟨x, hx⟩ := get_of_lt hlt
                      obtain ⟨xb, xf, rfl, hxb, zx⟩ := H.out.2.2.1.int (Below.refl _ _) hx
                      obtain ⟨x0, x1⟩ : 0 ≤ x ∧ x < 2 * oc.vars := H.out.2.2.2.outs x (List.mem_of_getElem? hx)
                      have hS : ∀ W, Below B W3 W → W.heap[B]? = some (.cells #[Value.int .i64 oc.inp, vX2, vX1, .slice s k cc] 28 (0, 0)) → (fun w' => (∀ o, w'.cell? ⟨B, o, none⟩ = #[Value.int .i64 oc.inp, vX2, vX1, .slice s k cc][o]?) ∧ (∀ o, w'.cell? ⟨A, o, none⟩ = #[Value.int .i64 oc.inp, Value.slice s3n oc.next.length c3n, Value.slice s3g oc.gates.length c3g, Value.slice (some ⟨xb, xf, none⟩) oc.outs.length c3o][o]?) ∧ w'.cell? ⟨xb, xf + k, none⟩ = some (.int .i64 x)) W := fun W hW hB => ⟨(blk_all hB).1, (blk_all (blk_below hW hBw HW3.out.2.1)).1, ((HW3.out.1.trans (hW.mono (Nat.le_of_lt hBz))).cell (p := ⟨xb, xf + k, none⟩) hxb).trans zx⟩
                      have HR := Lib.hid (And.intro hO (And.intro hbl (And.intro hx (And.intro hlk (And.intro (hlk1 hlt) (And.intro (show x / 2 < oc.vars by omega) hS))))))
                      clear hx x1 zx hxb
                      clear hO hlk hlk1 hbl hbox hS
                      go_upto_region 21 with fail
                      clear cb
                      refine wp_region_E (fun w' => (∀ o, w'.cell? ⟨B, o, none⟩ = #[Value.int .i64 oc.inp, vX2, vX1, .slice s k cc][o]?) ∧ (∀ o, w'.cell? ⟨A, o, none⟩ = #[Value.int .i64 oc.inp, Value.slice s3n oc.next.length c3n, Value.slice s3g oc.gates.length c3g, Value.slice (some ⟨xb, xf, none⟩) oc.outs.length c3o][o]?) ∧ w'.cell? ⟨xb, xf + k, none⟩ = some (.int .i64 x)) 12 (.q 0 (.q 1 (.q 2 (.q 3 (.q 4 (.q 5 (.q 6 (.q 7 (.e 8 (.e 9 (.e 10 (.q 11 (.z 12))))))))))))) (by kernel_rfl) (by kernel_rfl) (by kernel_rfl) (by kernel_rfl) (by kernel_rfl) (by kernel_rfl) (HR.out.2.2.2.2.2.2 _ HR.out.2.1.drew HR.out.1.blk) ?_
                      repeat (first | (refine orde_s (o := ?_) ?_ ?_ ?_; rotate_left 1; (focus ((simp only [zD, zE, zF]) <;> rfl)); (focus rfl); simp only [Act.put, zA, zB, zC]) | (refine orde_q (o := ?_) (v := ?_) ?_ ?_ ?_ ?_; rotate_left 2; (focus ((simp only [zD, zE, zF]) <;> rfl)); (focus rfl); (focus (intro w' hS; (try dsimp only at hS); go_split_ands; go_simp; (try (with_reducible rfl)))); simp only [Act.put, zA, zB, zC]))
                      refine orde_e ?_
                      (refine ope_e (o := ?_) ?_ ?_ (fun K hK => ?_); rotate_left 1; (focus ((simp only [zD, zE, zF]) <;> rfl)); (focus rfl); go_simp)
                      refine (HLM.out _ (x) HR.out.2.1.drew x0 HR.out.2.2.2.2.2.1).mono ?_
                      rintro e wa ⟨rfl, rfl⟩
                      refine hK.out _ _ (HR.out.2.2.2.2.2.2 _ HR.out.2.1.drew HR.out.1.blk) ?_
                      clear hK K
                      (try simp only [Act.put, zA, zB, zC])
                      refine orde_e ?_
                      (refine ope_e (o := ?_) ?_ ?_ (fun K hK => ?_); rotate_left 1; (focus ((simp only [zD, zE, zF]) <;> rfl)); (focus rfl); go_simp)
                      have hb1 : Below wr.heap.size wr (wr.alloc (.cells #[.int .i64 (f x)] 3)).drew := ((Below.refl _ _).alloc (Nat.le_refl _) _).drew
                      have hs1 : Sl (wr.alloc (.cells #[.int .i64 (f x)] 3)).drew (some ⟨wr.heap.size, 0, none⟩) [.int .i64 (f x)] := (Sl.new wr _ _).drew
                      revert hb1 hs1
                      generalize (wr.alloc (.cells #[.int .i64 (f x)] 3)).drew = W1
                      intro hb1 hs1
                      have hO1 := HR.out.1.below hb1
                      have hB1 := HR.out.2.1.trans (hb1.mono (Nat.le_of_lt hsz))
                      refine hK.out _ _ (HR.out.2.2.2.2.2.2 _ hB1 hO1.blk) ?_
                      clear hK K
                      have HW1 := Lib.hid (And.intro hO1 (And.intro hs1 hB1))
                      have hs1z : B < W1.heap.size := blk_lt hO1.blk
                      clear hO1 hb1 hs1 hB1
                      (try simp only [Act.put, zA, zB, zC])
                      refine orde_e ?_
                      (refine ope_e (o := ?_) ?_ ?_ (fun K hK => ?_); rotate_left 1; (focus ((simp only [zD, zE, zF]) <;> rfl)); (focus rfl))
                      refine wp_app (.tmp 91) (.tmp 99) rfl elem_int (by have h1 := HW1.out.1.o; rw [HR.out.2.2.2.1] at h1; exact h1) rfl rfl (by simp) HW1.out.2.1 (by simp [Value.oneCell']) (k + 1) rfl (ints ((oc.outs.take (k + 1)).map f)) (by rw [map_snoc HR.out.2.2.1, ← ints_append]; rfl) (by unfold maxLen; omega) (by omega) (by omega) ?_
                      intro s6 c6 W2 ho6 hb6 hg6 hob6
                      obtain ⟨hB2, hO2⟩ := HW1.out.1.pushO hg6 (xo' := ((oc.outs.take (k + 1)).map f)) (by rw [HR.out.2.2.2.2.1]; exact ho6) hob6
                      have hbb := HW1.out.2.2.trans hb6
                      refine hK.out _ _ (HR.out.2.2.2.2.2.2 _ hbb hB2) ?_
                      clear hK K
                      have y1 : W2.cell? ⟨B, 3, none⟩ = some (.slice s k cc) := blk_cell hB2
                      have y2 : W2.frozen? ⟨B, 3, none⟩ = false := blk_free hB2
                      have HW2 := Lib.hid (And.intro hO2 hbb)
                      clear hB2 hO2 ho6 hb6 hg6 hob6 hbb
                      (try simp only [Act.put, zA, zB, zC])
                      repeat (first | (refine orde_s (o := ?_) ?_ ?_ ?_; rotate_left 1; (focus ((simp only [zD, zE, zF]) <;> rfl)); (focus rfl); simp only [Act.put, zA, zB, zC]) | (refine orde_q (o := ?_) (v := ?_) ?_ ?_ ?_ ?_; rotate_left 2; (focus ((simp only [zD, zE, zF]) <;> rfl)); (focus rfl); (focus (intro w' hS; (try dsimp only at hS); go_split_ands; go_simp; (try (with_reducible rfl)))); simp only [Act.put, zA, zB, zC]))
                      (refine orde_z (o := ?_) ?_ ?_ (fun K hK => ?_); rotate_left 1; (focus ((simp only [zD, zE, zF]) <;> rfl)); (focus rfl); go_simp)
                      refine hK.out _ _ ?_
                      clear hK K y1 y2
                      go_wp2_with fail
                      go_roundw
                      case rel => exact ⟨k + 1, s6, c6, by omega, by go_num, HW2.out.1, HW2.out.2.setCell (p := ⟨B, 3, none⟩) (Nat.le_refl _) _⟩
                      case measure => simp [intOf]; omega
                    · obtain rfl : k = oc.outs.length := by omega
                      rw [List.take_length] at hO
                      obtain ⟨vX3, hvX⟩ : ∃ vX, vX = Value.slice s oc.outs.length cc := ⟨_, rfl⟩
                      rw [← hvX] at hO
                      have HvX3 : Hid (∃ s' c', vX3 = Value.slice s' oc.outs.length c') := ⟨_, _, hvX⟩
                      have HY3 := Lib.hid (And.intro hO hbl)
                      clear hO hbl hlk hlk1 hvX hbox
                      obtain ⟨sG, cG, rfl⟩ := HvX1.out
                      obtain ⟨sN, cN, rfl⟩ := HvX2.out
                      obtain ⟨sO, cO, rfl⟩ := HvX3.out
                      have hO := HY3.out.1
                      have hbe : Below W4.heap.size W4 wr := HW3.out.1.trans (HY3.out.2.mono (Nat.le_of_lt hBz))
                      have cB := (blk_all hO.blk).1
                      have e1 : (oc.next.map f).length = oc.next.length := by simp
                      have e2 : (mapG f oc.gates).length = oc.gates.length := by simp [mapG]
                      have e3 : (oc.outs.map f).length = oc.outs.length := by simp
                      have hown : CirOwn wr B (oc.mapC f) (.slice sN oc.next.length cN) (.slice sG oc.gates.length cG) (.slice sO oc.outs.length cO) :=
                        ⟨hO.n, hO.g, hO.o, hO.ne, by rw [show (oc.mapC f).next.length = oc.next.length from e1]; omega, by rw [show (oc.mapC f).gates.length = oc.gates.length from e2]; omega, by rw [show (oc.mapC f).outs.length = oc.outs.length from e3]; omega⟩
                      have hsmf : oc.mapC f = sm := by rw [HFF.out, HHO.out.2.1]; rfl
                      have hvx : CirV wr (.agg #[.int .i64 oc.inp, .slice sN oc.next.length cN, .slice sG oc.gates.length cG, .slice sO oc.outs.length cO]) sm := by
                        rw [← hsmf]
                        have a1 := hO.n
                        have a2 := hO.g
                        have a3 := hO.o
                        rw [e1] at a1
                        rw [e2] at a2
                        rw [e3] at a3
                        exact ⟨sN, cN, sG, cG, sO, cO, by rw [show (oc.mapC f).next.length = oc.next.length from e1, show (oc.mapC f).gates.length = oc.gates.length from e2, show (oc.mapC f).outs.length = oc.outs.length from e3]; rfl, own_sl a1, own_sl a2, own_sl a3, hown.l1, hown.l2, hown.l3⟩
                      have HOS := Lib.hid (Optimize_s _ sm wr hvx)
                      have HOY := Lib.hid (optR_yes ((Cir.validB_iff _).2 HHO.out.2.2))
                      have HE := Lib.hid hbe
                      have hsE := hbe.size
                      clear hO hown hsmf hvx hbe e1 e2 e3
                      go_wp2_with (go_at_call 43; refine HOS.out.mono ?_; rintro e w9 ⟨vn, vg, vo, rfl, hO, hq⟩; rw [HOY.out] at hO ⊢; obtain ⟨s9n, c9n, rfl⟩ := own_shape hO.n; obtain ⟨s9g, c9g, rfl⟩ := own_shape hO.g; obtain ⟨s9o, c9o, rfl⟩ := own_shape hO.o; have H9 := Lib.hid (And.intro hO (HE.out.trans (hq.mono HE.out.size))); clear hO hq cB; obtain ⟨rc, rf⟩ := blk_all (blk_below H9.out.2 (blk_lt H4.out.2.2.1) H4.out.2.2.1))
                      clear rc rf
                      have hR := blk_below H9.out.2 (blk_lt H4.out.2.2.1) H4.out.2.2.1
                      have hO9 := (H9.out.1).sets4 (r := A + 1) (by omega) (base := w.heap.size) (by omega) (a := .int .i64 (optC sm).inp) (b' := .slice s9n (optC sm).next.length c9n) (c' := .slice s9g (optC sm).gates.length c9g) (d := .slice s9o (optC sm).outs.length c9o)
                      have hZ : (((((w9.setCell ⟨A + 1, 0, none⟩ (.int .i64 (optC sm).inp)).setCell ⟨A + 1, 1, none⟩ (.slice s9n (optC sm).next.length c9n)).setCell ⟨A + 1, 2, none⟩ (.slice s9g (optC sm).gates.length c9g)).setCell ⟨A + 1, 3, none⟩ (.slice s9o (optC sm).outs.length c9o))).heap[A + 1]? = some (.cells #[.int .i64 (optC sm).inp, .slice s9n (optC sm).next.length c9n, .slice s9g (optC sm).gates.length c9g, .slice s9o (optC sm).outs.length c9o] 28 (0, 0)) := by simpa using blk_set (o := 3) (v := .slice s9o (optC sm).outs.length c9o) (blk_set (o := 2) (v := .slice s9g (optC sm).gates.length c9g) (blk_set (o := 1) (v := .slice s9n (optC sm).next.length c9n) (blk_set (o := 0) (v := .int .i64 (optC sm).inp) hR)))
                      have hbz := ((((H4.out.2.2.2.trans (H9.out.2.mono H4.out.2.2.2.size)).setCell (p := ⟨A + 1, 0, none⟩) (by simp; omega) (.int .i64 (optC sm).inp)).setCell (p := ⟨A + 1, 1, none⟩) (by simp; omega) (.slice s9n (optC sm).next.length c9n)).setCell (p := ⟨A + 1, 2, none⟩) (by simp; omega) (.slice s9g (optC sm).gates.length c9g)).setCell (p := ⟨A + 1, 3, none⟩) (by simp; omega) (.slice s9o (optC sm).outs.length c9o)
                      clear hR
                      revert hZ hO9 hbz
                      generalize (((((w9.setCell ⟨A + 1, 0, none⟩ (.int .i64 (optC sm).inp)).setCell ⟨A + 1, 1, none⟩ (.slice s9n (optC sm).next.length c9n)).setCell ⟨A + 1, 2, none⟩ (.slice s9g (optC sm).gates.length c9g)).setCell ⟨A + 1, 3, none⟩ (.slice s9o (optC sm).outs.length c9o))) = WZ
                      intro hO9 hZ hbz
                      have cr := (blk_all hZ).1
                      exact bodyPost_ret (v := .agg #[.int .i64 (optC sm).inp, .slice s9n (optC sm).next.length c9n, .slice s9g (optC sm).gates.length c9g, .slice s9o (optC sm).outs.length c9o]) (by simp [results, Try.results25, go_sem, cr]) rfl ⟨_, _, _, rfl, hO9, hbz⟩

end Go.Proofs.Ytdcjiclonjillaa
