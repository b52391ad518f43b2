import Derived.Test.YtindndcdpnpcmaaV6
import Derived.Test.YtindndcdpnpcmaaH2
namespace Go.Proofs.Ytindndcdpnpcmaa
set_option linter.unusedVariables false
set_option linter.unusedSimpArgs false
open Go.RowKit

/-! Values under a fault: the reference's walks. -/

set_option maxHeartbeats 400000 in
theorem l4Same_any (s t : Option Addr) (xs ys : List Bool) (n cap cap2 : Nat) (w : World) (hs : Sl w s (bools xs)) (ht : Sl w t (bools ys)) (hl : xs.length = n) (hl2 : ys.length = n) (hn : n ≤ 1000) :
    Calls Try.prog 142 #[.slice s n cap, .slice t n cap2] w fun e w' => e = .returned (.bool (decide (xs = ys))) ∧ Drew w w' := by
  have HS := Lib.hid (And.intro hs (And.intro ht (And.intro hl hl2)))
  clear hs ht hl hl2
  go_enter Try.func142, Try.ntmps142
  go_wp2
  go_loopw [5] (fun i wr => ∃ k : Nat, k ≤ n ∧ i = .int .i64 k ∧ xs.take k = ys.take k ∧ Drew w wr) (fun i _ => n - (intOf i).toNat)
  case atStart => exact ⟨0, Nat.zero_le _, rfl, rfl, Drew.refl _⟩
  case round =>
    obtain ⟨k, hk, rfl, htk, hd⟩ := hrel
    have HT : Hid (xs.take k = ys.take k) := htk
    have HD := Lib.hid hd
    clear htk hd
    by_cases hlt : k < n
    · obtain ⟨x, hx⟩ := get_of_lt (l := xs) (k := k) (by have := HS.out.2.2.1; omega)
      obtain ⟨y, hy⟩ := get_of_lt (l := ys) (k := k) (by have := HS.out.2.2.2; omega)
      obtain ⟨b, off, rfl, hbw, hz⟩ := HS.out.1.bool (HD.out.below _) hx
      obtain ⟨b2, off2, rfl, hbw2, hz2⟩ := HS.out.2.1.bool (HD.out.below _) hy
      have HR := Lib.hid (And.intro hx hy)
      clear hx hy
      cases x <;> cases y
      all_goals
        go_wp2
        go_quiet (fail)
        go_wp2
        obtain ⟨hx, hy⟩ := HR.out
        first
          | (go_roundw
             case rel => exact ⟨k + 1, by omega, by go_num, by rw [List.take_add_one, List.take_add_one, HT.out, hx, hy], HD.out.n _⟩
             case measure => simp [intOf]; omega)
          | (go_ret
             refine ⟨ret_bool ?_, HD.out.n _⟩
             symm; rw [decide_eq_false_iff_not]; intro e; subst e; rw [hx] at hy; simp at hy)
    · obtain rfl : k = n := by omega
      have he : decide (xs = ys) = true := by
        have h1 := HT.out
        rw [List.take_of_length_le (by have := HS.out.2.2.1; omega), List.take_of_length_le (by have := HS.out.2.2.2; omega)] at h1
        simpa using h1
      have HE := Lib.hid he
      clear he
      go_wp2
      go_ret
      exact ⟨ret_bool HE.out.symm, HD.out⟩

set_option maxRecDepth 100000 in
set_option maxHeartbeats 3200000 in
theorem l12Values_any (v : Value) (c : Cir) (p : Int) (val : Bool) (ss si : Option Addr) (cs ci : Nat) (S I : List Bool) (w : World) (h : CirV w v c) (hv : c.valid) (hS : Sl w ss (bools S)) (hI : Sl w si (bools I))
    (lS : S.length = c.next.length) (ni : Nat) (lI : I.length = ni) (li : c.inp = ni) (hp : 0 ≤ p) (hp2 : p ≤ 100) :
    Calls Try.prog 141 #[v, .agg #[.int .i64 p, .bool val], .slice ss c.next.length cs, .slice si ni ci] w fun e w' => ∃ s cc, e = .returned (.slice s (valsV p val (stuckB p val (false :: (I ++ S))) c.gates).length cc) ∧
      Sl w' s (bools (valsV p val (stuckB p val (false :: (I ++ S))) c.gates)) ∧ Below w.heap.size w w' := by
  obtain ⟨sn, cn, sg, cg, so, co, rfl, h1, h2, h3, hl1, hl2, hl3⟩ := h
  obtain ⟨f1, f2, f3, f4⟩ := valid_first hv
  obtain ⟨q1, q2, q3, q4, q5⟩ := id hv.lim
  have eF : c.first = 1 + c.inp + c.next.length := rfl
  have n4 : ni ≤ 4 := by omega
  obtain ⟨F, hF⟩ : ∃ F, F = 1 + ni + c.next.length := ⟨_, rfl⟩
  have eF2 : c.first = (F : Int) := by omega
  have f8 : F ≤ 8 := by omega
  have f1' : 1 ≤ F := by omega
  have lB : (false :: (I ++ S)).length = F := by simp; omega
  have lF : 1 + ni + c.next.length ≤ F := by omega
  have H := Lib.hid (And.intro h2 (And.intro hv (And.intro hS (And.intro hI (And.intro lS (And.intro lI (And.intro eF2 (And.intro hF lB))))))))
  have hL : Below w.heap.size w (((w.alloc (.cells #[.int .i64 c.inp, .slice sn c.next.length cn, .slice sg c.gates.length cg, .slice so c.outs.length co] 29)).alloc (.cells #[.int .i64 p, .bool val] 51)).alloc (.cells #[.bool false] 4)) := by go_grown
  have hK := blk3 w (.cells #[.int .i64 c.inp, .slice sn c.next.length cn, .slice sg c.gates.length cg, .slice so c.outs.length co] 29) (.cells #[.int .i64 p, .bool val] 51) (.cells #[.bool false] 4)
  have ho1 : (((w.alloc (.cells #[.int .i64 c.inp, .slice sn c.next.length cn, .slice sg c.gates.length cg, .slice so c.outs.length co] 29)).alloc (.cells #[.int .i64 p, .bool val] 51)).alloc (.cells #[.bool false] 4)).ownsRow (w.heap.size + 2) 4 1 (.slice (some ⟨w.heap.size + 1 + 1, 0, none⟩) 1 1) 1 (bools [false]) :=
    own_of_blk (n := 1) (cur := #[.bool false]) (blk_at (by simp)) (Nat.le_refl _) (by simp) (by unfold maxLen; omega)
  have H1 := Lib.hid (And.intro hL (And.intro ho1 hK))
  clear h1 h2 h3 hv hS hI lS lI li f1 f2 f3 f4 q1 q2 q5 eF hF eF2 lB hL ho1 hK
  have hw3 := H1.out.2.2.2.2.2
  clear hw3
  go_enter Try.func141, Try.ntmps141
  go_upto_region 3 with (first
    | (at_builtin; refine wpl_app rfl (.tmp 12) (.tmp 13) rfl elem_bool H1.out.2.1 rfl rfl (by simp [H.out.2.2.2.2.2.1]) (H.out.2.2.2.1.mono H1.out.1) (bools_one _) (1 + ni) rfl (bools ([false] ++ I)) (by rw [bools_append]) (by unfold maxLen; omega) (by omega) (by have := H1.out.2.2.2.2.2; omega) ?_; intro s3 c3 w3 h3 hb3 _ _; have HA := Lib.hid (And.intro h3 hb3); clear h3 hb3)
    | (at_builtin; refine wpl_app rfl (.tmp 15) (.tmp 16) rfl elem_bool HA.out.1 rfl rfl (by simp [H.out.2.2.2.2.1]) (H.out.2.2.1.mono (H1.out.1.trans (HA.out.2.mono (by omega)))) (bools_one _) (1 + ni + c.next.length) rfl (bools ([false] ++ I ++ S)) (by rw [bools_append]) (by unfold maxLen; omega) (by omega) (by have := H1.out.2.2.2.2.2; have := HA.out.2.size; omega) ?_; intro s4 c4 w4 h4 hb4 _ _; have HB := Lib.hid (And.intro h4 hb4); clear h4 hb4))
  have hb := HA.out.2.trans HB.out.2
  have ho := HB.out.1
  clear HA HB
  revert H1 hb
  generalize (((w.alloc (.cells #[.int .i64 c.inp, .slice sn c.next.length cn, .slice sg c.gates.length cg, .slice so c.outs.length co] 29)).alloc (.cells #[.int .i64 p, .bool val] 51)).alloc (.cells #[.bool false] 4)) = W1
  intro H1 hb
  obtain ⟨B1, hB1⟩ : ∃ B1, B1 = false :: (I ++ S) := ⟨_, rfl⟩
  have e1 : [false] ++ I ++ S = B1 := by rw [hB1]; simp
  rw [e1, ← H.out.2.2.2.2.2.2.2.1] at ho
  have eN : 1 + ni + c.next.length = F := H.out.2.2.2.2.2.2.2.1.symm
  rw [eN]
  have lB1 : B1.length = F := by rw [hB1]; exact H.out.2.2.2.2.2.2.2.2
  obtain ⟨g4, rfl⟩ : ∃ g, s4 = some ⟨g, 0, none⟩ := by
    rcases own_some ho with ⟨_, e, _⟩ | ⟨g, e⟩
    · omega
    · exact ⟨g, e⟩
  have hblk1 := blk_below hb (by omega) H1.out.2.2.2.1
  have hblk0 := blk_below hb (by omega) H1.out.2.2.1
  have cf := (blk_all hblk1).1
  have hs4 : w.heap.size + 3 ≤ w4.heap.size := by have h1 := hb.size; have h2 := H1.out.2.2.2.2.2; omega
  have HX := Lib.hid (And.intro hb (And.intro ho (And.intro hB1 lB1)))
  clear hb ho hB1 lB1 e1 eN lF hblk0 hblk1
  by_cases hpF : p < (F : Int)
  case' pos =>
    have hqF : p.toNat < F := by omega
    obtain ⟨y, hy⟩ := get_of_lt (l := B1) (k := p.toNat) (by rw [HX.out.2.2.2]; exact hqF)
    have z1 : w4.cell? ⟨g4, p.toNat, none⟩ = some (.bool y) := (HX.out.2.1.cellAt p.toNat (by omega)).trans (bools_get hy)
    have z2 : w4.frozen? ⟨g4, p.toNat, none⟩ = false := HX.out.2.1.frozenAt p.toNat
    obtain ⟨hst, hgr⟩ := HX.out.2.1.stored p.toNat (.bool val)
    have hst2 : (bools B1).set p.toNat (.bool val) = bools (stuckB p val B1) := by
      unfold stuckB bools
      rw [if_pos (by omega), List.map_set]
    rw [hst2] at hst
    have hb2 := HX.out.1.grown hgr (by have := H1.out.2.2.2.2.2; omega) (fun k hk => (own_blk HX.out.2.1 hk).1)
    have HS := Lib.hid (And.intro hst hb2)
    clear hy hst hgr hst2 hb2
    go_upto_region 5 with fail
    have hst := HS.out.1
    have hb := HS.out.2
    clear z1 z2 HS cf hqF
    revert hst hb
    generalize w4.setCell ⟨g4, p.toNat, none⟩ (.bool val) = W5
    intro hst hb
  case' neg =>
    have hst := HX.out.2.1
    have hb := HX.out.1
    have hs : stuckB p val B1 = B1 := by
      unfold stuckB
      rw [if_pos hp, List.set_eq_of_length_le (by rw [HX.out.2.2.2]; omega)]
    rw [← hs] at hst
    have HS := Lib.hid (And.intro hst hb)
    clear hst hb hs
    go_upto_region 5 with fail
    have hst := HS.out.1
    have hb := HS.out.2
    clear HS cf
    revert hst hb
    generalize w4 = W5
    intro hst hb
  all_goals
    obtain ⟨B0, hB0⟩ : ∃ B0, B0 = stuckB p val (false :: (I ++ S)) := ⟨_, rfl⟩
    have lB0 : B0.length = F := by rw [hB0, stuckB_length]; exact H.out.2.2.2.2.2.2.2.2
    rw [HX.out.2.2.1, ← hB0] at hst
    have HB0 := Lib.hid (And.intro hst (And.intro hb (And.intro hB0 lB0)))
    have hs5 : w.heap.size + 3 ≤ W5.heap.size := by have h1 := hb.size; have h2 := H1.out.2.2.2.2.2; omega
    clear hst hb hB0 lB0 HX
    go_wp2_with fail
    go_loopw [10, 9] (fun i v wr => ∃ (k : Nat) (s : Option Addr) (cc : Nat), k ≤ c.gates.length ∧ i = .int .i64 k ∧ v = .slice s (F + k) cc ∧ wr.ownsRow (w.heap.size + 2) 4 1 v (F + k) (bools (valsV p val B0 (c.gates.take k))) ∧ Below (w.heap.size + 2) W1 wr) (fun i _ _ => c.gates.length - (intOf i).toNat)
    case atStart => exact ⟨0, _, _, Nat.zero_le _, rfl, rfl, by simpa [valsV] using HB0.out.1, HB0.out.2.1⟩
    case round =>
      obtain ⟨k, s7, c7, hk, rfl, rfl, ho, hbl⟩ := hrel
      have hbw : Below w.heap.size w wr := H1.out.1.trans (hbl.mono (by omega))
      have hcb := (blk_all (blk_below hbl (by omega) H1.out.2.2.1)).1
      have hcf := (blk_all (blk_below hbl (by omega) H1.out.2.2.2.1)).1
      have hsz : w.heap.size + 3 ≤ wr.heap.size := by have h1 := hbl.size; have h2 := H1.out.2.2.2.2.2; omega
      by_cases hlt : k < c.gates.length
      · obtain ⟨g, hg⟩ := get_of_lt hlt
        obtain ⟨gb, off, rfl, hbw2, z1, z2⟩ := H.out.1.gate hbw hg
        obtain ⟨⟨a1, a2⟩, b1, b2⟩ := valid_gate H.out.2.1 hg
        have hfF := H.out.2.2.2.2.2.2.1
        have a3 : g.a / 2 < F + k := by omega
        have b3 : g.b / 2 < F + k := by omega
        have a4 : g.a ≤ 1000000 := by omega
        have b4 : g.b ≤ 1000000 := by omega
        obtain ⟨P, hP⟩ : ∃ P, P = valsV p val B0 (c.gates.take k) := ⟨_, rfl⟩
        have lP : P.length = F + k := by rw [hP, valsV_length, HB0.out.2.2.2, List.length_take]; omega
        rw [← hP] at ho
        have hsn : ((F : Int) + (k : Int) = p → valsV p val B0 (c.gates.take (k + 1)) = P ++ [val]) ∧ (¬ (F : Int) + (k : Int) = p → valsV p val B0 (c.gates.take (k + 1)) = P ++ [litB P g.a && litB P g.b]) := by
          rw [valsV_snoc hg, ← hP]
          unfold stepV
          refine ⟨fun h => by rw [if_pos (by omega)], fun h => by rw [if_neg (by omega)]⟩
        have hlv : ∀ l : Int, 0 ≤ l → l ≤ 1000000 → l / 2 < F + k → Calls Try.prog 137 #[.slice s7 (F + k) c7, .int .i64 l] wr fun e w' => e = .returned (.bool (litB P l)) ∧ wr = w' := fun l h0 h1 h2 => by
          have := l2Lit_any s7 P c7 l wr (own_sl ho) h0 h1 (by rw [lP]; omega)
          rw [lP] at this
          exact this
        have HQ := Lib.hid (And.intro hlv (And.intro hsn (And.intro ho (And.intro hbl hP))))
        clear hlv hsn ho hbl hP lP hg hfF a2 b2 hbw hbw2
        obtain ⟨va, hva⟩ : ∃ va, va = litB P g.a := ⟨_, rfl⟩
        obtain ⟨vb, hvb⟩ : ∃ vb, vb = litB P g.b := ⟨_, rfl⟩
        have HV := Lib.hid (And.intro hva hvb)
        clear hva hvb
        by_cases hkp : (F : Int) + (k : Int) = p
        · try (exfalso; omega)
          all_goals
            cases va
            · go_wp2_with (first
                | (go_at_call 137; ((with_reducible refine (HQ.out.1 _ a1 a4 a3).mono ?_); rintro e w3 ⟨rfl, rfl⟩; rw [← HV.out.1]))
                | (at_builtin; refine wpl_app rfl _ _ rfl elem_bool (own_below HQ.out.2.2.1 ((Below.refl _ _).alloc (Nat.le_refl _) _)) rfl rfl rfl (Sl.new _ _ _) (by simp [Value.oneCell']) (F + k + 1) rfl _ rfl (by unfold maxLen; omega) (by omega) (by simp; omega) ?_; intro s3 c3 w3 h3 hb3 _ _; have HA := Lib.hid (And.intro h3 hb3); clear h3 hb3))
              go_roundw
              case rel =>
                refine ⟨k + 1, s3, c3, by omega, by go_num, rfl, ?_, (HQ.out.2.2.2.1.alloc (by omega) _).trans HA.out.2⟩
                have e := HA.out.1
                rw [HQ.out.2.1.1 (by omega)]
                unfold bools at *
                rw [List.map_append]
                exact e
              case measure => simp [intOf]; omega
            · go_wp2_with (first
                | (go_at_call 137; ((with_reducible refine (HQ.out.1 _ a1 a4 a3).mono ?_); rintro e w3 ⟨rfl, rfl⟩; rw [← HV.out.1]))
                | (go_at_call 137; ((with_reducible refine (HQ.out.1 _ b1 b4 b3).mono ?_); rintro e w3 ⟨rfl, rfl⟩; rw [← HV.out.2]))
                | (at_builtin; refine wpl_app rfl _ _ rfl elem_bool (own_below HQ.out.2.2.1 ((Below.refl _ _).alloc (Nat.le_refl _) _)) rfl rfl rfl (Sl.new _ _ _) (by simp [Value.oneCell']) (F + k + 1) rfl _ rfl (by unfold maxLen; omega) (by omega) (by simp; omega) ?_; intro s3 c3 w3 h3 hb3 _ _; have HA := Lib.hid (And.intro h3 hb3); clear h3 hb3))
              go_roundw
              case rel =>
                refine ⟨k + 1, s3, c3, by omega, by go_num, rfl, ?_, (HQ.out.2.2.2.1.alloc (by omega) _).trans HA.out.2⟩
                have e := HA.out.1
                rw [HQ.out.2.1.1 (by omega)]
                unfold bools at *
                rw [List.map_append]
                exact e
              case measure => simp [intOf]; omega
        · have hkp2 : ¬ p = (F : Int) + (k : Int) := fun h => hkp h.symm
          cases va
          · go_wp2_with (first
              | (go_at_call 137; ((with_reducible refine (HQ.out.1 _ a1 a4 a3).mono ?_); rintro e w3 ⟨rfl, rfl⟩; rw [← HV.out.1]))
              | (at_builtin; refine wpl_app rfl _ _ rfl elem_bool (own_below HQ.out.2.2.1 ((Below.refl _ _).alloc (Nat.le_refl _) _)) rfl rfl rfl (Sl.new _ _ _) (by simp [Value.oneCell']) (F + k + 1) rfl _ rfl (by unfold maxLen; omega) (by omega) (by simp; omega) ?_; intro s3 c3 w3 h3 hb3 _ _; have HA := Lib.hid (And.intro h3 hb3); clear h3 hb3))
            go_roundw
            case rel =>
              refine ⟨k + 1, s3, c3, by omega, by go_num, rfl, ?_, (HQ.out.2.2.2.1.alloc (by omega) _).trans HA.out.2⟩
              have e := HA.out.1
              rw [HQ.out.2.1.2 (by omega), ← HV.out.1]
              unfold bools at *
              rw [List.map_append]
              exact e
            case measure => simp [intOf]; omega
          · go_wp2_with (first
              | (go_at_call 137; ((with_reducible refine (HQ.out.1 _ a1 a4 a3).mono ?_); rintro e w3 ⟨rfl, rfl⟩; rw [← HV.out.1]))
              | (go_at_call 137; ((with_reducible refine (HQ.out.1 _ b1 b4 b3).mono ?_); rintro e w3 ⟨rfl, rfl⟩; rw [← HV.out.2]))
              | (at_builtin; refine wpl_app rfl _ _ rfl elem_bool (own_below HQ.out.2.2.1 ((Below.refl _ _).alloc (Nat.le_refl _) _)) rfl rfl rfl (Sl.new _ _ _) (by simp [Value.oneCell']) (F + k + 1) rfl _ rfl (by unfold maxLen; omega) (by omega) (by simp; omega) ?_; intro s3 c3 w3 h3 hb3 _ _; have HA := Lib.hid (And.intro h3 hb3); clear h3 hb3))
            go_roundw
            case rel =>
              refine ⟨k + 1, s3, c3, by omega, by go_num, rfl, ?_, (HQ.out.2.2.2.1.alloc (by omega) _).trans HA.out.2⟩
              have e := HA.out.1
              rw [HQ.out.2.1.2 (by omega), ← HV.out.1, ← HV.out.2]
              unfold bools at *
              rw [List.map_append]
              exact e
            case measure => simp [intOf]; omega
      · obtain rfl : k = c.gates.length := by omega
        rw [List.take_length, HB0.out.2.2.1] at ho
        have HR := Lib.hid (And.intro ho hbw)
        clear ho hbl hbw
        go_wp2_with fail
        go_ret
        have hlen : (valsV p val (stuckB p val (false :: (I ++ S))) c.gates).length = F + c.gates.length := by rw [valsV_length, stuckB_length, H.out.2.2.2.2.2.2.2.2]
        rw [hlen]
        first
          | exact ⟨s7, ⟨c7, rfl⟩, own_sl HR.out.1, HR.out.2⟩
          | exact ⟨s7, c7, rfl, own_sl HR.out.1, HR.out.2⟩

theorem map_app_eq (f g : Int → Bool) (xs ys : List Int) : ((xs ++ ys).map f = (xs ++ ys).map g) ↔ (ys.map f = ys.map g ∧ xs.map f = xs.map g) := by
  rw [List.map_append, List.map_append]
  constructor
  · intro h
    have := List.append_inj h (by simp)
    exact ⟨this.2, this.1⟩
  · rintro ⟨h1, h2⟩; rw [h1, h2]
theorem detV_eq (c : Cir) (p : Int) (val : Bool) (x : Int) : detV c p val x = !(decide (c.outs.map (litB (evalV c x (-1) false)) = c.outs.map (litB (evalV c x p val))) && decide (c.next.map (litB (evalV c x (-1) false)) = c.next.map (litB (evalV c x p val)))) := by
  unfold detV resV
  congr 1
  rw [Bool.eq_iff_iff]
  simp only [decide_eq_true_eq, Bool.and_eq_true]
  exact map_app_eq _ _ _ _

set_option maxRecDepth 100000 in
set_option maxHeartbeats 3200000 in
theorem l12Detects_any (v : Value) (c : Cir) (p : Int) (val : Bool) (k : Nat) (w : World) (h : CirV w v c) (hv : c.valid) (hp : 0 ≤ p) (hp2 : p < c.vars) (hk : k ≤ 1000) :
    Calls Try.prog 132 #[v, .agg #[.int .i64 p, .bool val], .int .i64 k] w fun e w' => e = .returned (.bool (detV c p val k)) ∧ Below w.heap.size w w' := by
  have HC : Hid (∀ w', Below w.heap.size w w' → CirV w' v c) := fun w' hb => h.mono hb
  obtain ⟨sn, cn, sg, cg, so, co, rfl, h1, h2, h3, hl1, hl2, hl3⟩ := h
  obtain ⟨f1, f2, f3, f4⟩ := valid_first hv
  obtain ⟨q1, q2, q3, q4, q5⟩ := id hv.lim
  obtain ⟨ni, hni⟩ : ∃ ni : Nat, c.inp = ni := ⟨c.inp.toNat, by omega⟩
  have n4 : ni ≤ 4 := by omega
  have p100 : p ≤ 100 := by omega
  have hkpw : (1 : Int) ≤ 2 ^ ni := by have : (0 : Int) < 2 ^ ni := Int.pow_pos (by decide); omega
  have d0 : 0 ≤ (k : Int) / 2 ^ ni := Int.ediv_nonneg (by omega) (by omega)
  have d1 : (k : Int) / 2 ^ ni ≤ 1000000 := Int.le_trans (Int.ediv_le_self _ (by omega)) (by omega)
  have hb0 : Below w.heap.size w ((w.alloc (.cells #[.int .i64 c.inp, .slice sn c.next.length cn, .slice sg c.gates.length cg, .slice so c.outs.length co] 29)).alloc (.cells #[.int .i64 p, .bool val] 51)) := by go_grown
  have hn0 := blk_old (o := .cells #[.int .i64 p, .bool val] 51) (blk_new w (.cells #[.int .i64 c.inp, .slice sn c.next.length cn, .slice sg c.gates.length cg, .slice so c.outs.length co] 29))
  have hf0 : ((w.alloc (.cells #[.int .i64 c.inp, .slice sn c.next.length cn, .slice sg c.gates.length cg, .slice so c.outs.length co] 29)).alloc (.cells #[.int .i64 p, .bool val] 51)).heap[w.heap.size + 1]? = some (.cells #[.int .i64 p, .bool val] 51 (0, 0)) := blk_at (by simp)
  have hlits : ∀ x ∈ c.next ++ c.outs, 0 ≤ x ∧ x ≤ 1000000 ∧ x / 2 < c.vars := roots_lits hv
  have hlen : ∀ (st : Int) (b : Bool), ((evalV c k st b).length : Int) = c.vars := fun st b => by
    rw [evalV_length]; unfold Cir.vars; omega
  have hg : valsV (-1) false (false :: (bitsV k ni ++ bitsV ((k : Int) / 2 ^ ni) c.next.length)) c.gates = evalV c k (-1) false := evalV_asg c k ni hni
  have hf : valsV p val (stuckB p val (false :: (bitsV k ni ++ bitsV ((k : Int) / 2 ^ ni) c.next.length))) c.gates = evalV c k p val := by
    unfold evalV asgV; rw [hni]; simp
  obtain ⟨so1, hso⟩ : ∃ so1, so1 = decide (c.outs.map (litB (evalV c k (-1) false)) = c.outs.map (litB (evalV c k p val))) := ⟨_, rfl⟩
  obtain ⟨sn1, hsn⟩ : ∃ sn1, sn1 = decide (c.next.map (litB (evalV c k (-1) false)) = c.next.map (litB (evalV c k p val))) := ⟨_, rfl⟩
  have hdet := detV_eq c p val k
  rw [← hso, ← hsn] at hdet
  have H := Lib.hid (And.intro hv (And.intro hni (And.intro hlits (And.intro hlen (And.intro hg (And.intro hf (And.intro hso (And.intro hsn (And.intro hdet (And.intro h1 h3))))))))))
  have H0 := Lib.hid (And.intro hb0 (And.intro hn0 hf0))
  clear h1 h2 h3 hv hlits hlen hg hf hso hsn hdet hb0 hn0 hf0 f1 f2 f3 f4 q1 q2 hp2 hkpw
  rw [hni] at H0 HC ⊢
  clear hni
  go_enter Try.func132, Try.ntmps132
  go_wp2_with (go_at_call 120; ((refine (l4Bits_any _ _ _ (by omega) (by omega) (by omega)).mono ?_); rintro e wa ⟨sa, ca, rfl, ha, hqa⟩; have hza : w.heap.size + 2 ≤ wa.heap.size := (by have h1 := hqa.size; simp at h1; omega); have HA := Lib.hid (And.intro (H0.out.1.trans (hqa.mono (by simp; omega))) (And.intro (blk_below hqa (blk_lt H0.out.2.1) H0.out.2.1) (And.intro (blk_below hqa (blk_lt H0.out.2.2) H0.out.2.2) ha))); clear hqa ha))
  have hlx : w.heap.size < wa.heap.size := by omega
  refine wp_region_T (fun w' => ∀ o, w'.cell? ⟨w.heap.size, o, none⟩ = #[Value.int .i64 ni, Value.slice sn c.next.length cn, Value.slice sg c.gates.length cg, Value.slice so c.outs.length co][o]?) (.q 0 (.q 1 (.q 2 (.q 3 (.q 4 (.q 5 (.q 6 (.e 7 (.q 8 .nil))))))))) (by kernel_rfl) (by kernel_rfl) (by kernel_rfl) (blk_all HA.out.2.1).1 ?_
  repeat (first | (refine ordt_s (o := ?_) ?_ ?_ ?_; rotate_left 1; (focus ((simp only [List.getElem?_toArray, List.getElem?_cons_succ, List.getElem?_cons_zero]) <;> rfl)); (focus rfl); simp only [Act.put, List.setIfInBounds_toArray, List.set_cons_zero, List.set_cons_succ]) | (refine ordt_q (o := ?_) (v := ?_) ?_ ?_ ?_ ?_; rotate_left 2; (focus ((simp only [List.getElem?_toArray, List.getElem?_cons_succ, List.getElem?_cons_zero]) <;> rfl)); (focus rfl); (focus (intro w' hS; (try dsimp only at hS); go_split_ands; go_simp; (try (with_reducible rfl)))); simp only [Act.put, List.setIfInBounds_toArray, List.set_cons_zero, List.set_cons_succ]))
  refine ordt_e ?_
  (refine op_e (o := ?_) ?_ ?_ (fun K hK => ?_); rotate_left 1; (focus ((simp only [List.getElem?_toArray, List.getElem?_cons_succ, List.getElem?_cons_zero]) <;> rfl)); (focus rfl); go_simp)
  refine (l4Bits_any _ _ _ d0 d1 (by omega)).mono ?_
  rintro e wb ⟨sb, cb, rfl, hb, hqb⟩
  have hbb : Below wa.heap.size wa wb := (Below.refl _ _).drew.trans hqb
  refine hK.out _ _ (blk_all (blk_below hbb hlx HA.out.2.1)).1 ?_
  clear hK K hqb
  have HB := Lib.hid (And.intro (HA.out.1.trans (hbb.mono HA.out.1.size)) (And.intro (blk_below hbb hlx HA.out.2.1) (And.intro (blk_below hbb (by omega) HA.out.2.2.1) (And.intro (HA.out.2.2.2.mono hbb) (And.intro hb (show w.heap.size + 2 ≤ wb.heap.size from Nat.le_trans hza hbb.size))))))
  clear hbb hb
  (try simp only [Act.put, List.setIfInBounds_toArray, List.set_cons_zero, List.set_cons_succ])
  repeat (first | (refine ordt_s (o := ?_) ?_ ?_ ?_; rotate_left 1; (focus ((simp only [List.getElem?_toArray, List.getElem?_cons_succ, List.getElem?_cons_zero]) <;> rfl)); (focus rfl); simp only [Act.put, List.setIfInBounds_toArray, List.set_cons_zero, List.set_cons_succ]) | (refine ordt_q (o := ?_) (v := ?_) ?_ ?_ ?_ ?_; rotate_left 2; (focus ((simp only [List.getElem?_toArray, List.getElem?_cons_succ, List.getElem?_cons_zero]) <;> rfl)); (focus rfl); (focus (intro w' hS; (try dsimp only at hS); go_split_ands; go_simp; (try (with_reducible rfl)))); simp only [Act.put, List.setIfInBounds_toArray, List.set_cons_zero, List.set_cons_succ]))
  refine ordt_nil ?_
  have cb2 := (blk_all HB.out.2.1).1
  have cf2 := (blk_all HB.out.2.2.1).1
  have hzb := HB.out.2.2.2.2.2
  go_upto_region 4 with (go_at_call 119; ((refine (l2Values_any _ c sb sa _ _ (bitsV ((k : Int) / 2 ^ ni) c.next.length) (bitsV k ni) _ (HC.out _ HB.out.1) H.out.1 HB.out.2.2.2.2.1 HB.out.2.2.2.1 (bitsV_length _ _) ni (bitsV_length _ _) H.out.2.1).mono ?_); rintro e wd ⟨sd, nd, cd, rfl, hnd, hd, hqd⟩; rw [H.out.2.2.2.2.1] at hnd hd; subst hnd; have HD := Lib.hid (And.intro (HB.out.1.trans (hqd.mono HB.out.1.size)) (And.intro (blk_below hqd (by omega) HB.out.2.1) (And.intro (blk_below hqd (by omega) HB.out.2.2.1) (And.intro (HB.out.2.2.2.1.mono hqd) (And.intro (HB.out.2.2.2.2.1.mono hqd) (And.intro hd (And.intro True.intro (show w.heap.size + 2 ≤ wd.heap.size from Nat.le_trans hzb hqd.size)))))))); clear hd hqd cb2 cf2; have cb2 := (blk_all HD.out.2.1).1; have cf2 := (blk_all HD.out.2.2.1).1))
  have hzd := HD.out.2.2.2.2.2.2.2
  go_wp2_with (go_at_call 141; ((refine (l12Values_any _ c p val sb sa _ _ (bitsV ((k : Int) / 2 ^ ni) c.next.length) (bitsV k ni) _ (HC.out _ HD.out.1) H.out.1 HD.out.2.2.2.2.1 HD.out.2.2.2.1 (bitsV_length _ _) ni (bitsV_length _ _) H.out.2.1 hp p100).mono ?_); rintro e we ⟨se, ce, rfl, he, hqe⟩; rw [H.out.2.2.2.2.2.1] at he ⊢; have HE := Lib.hid (And.intro (HD.out.1.trans (hqe.mono HD.out.1.size)) (And.intro (blk_below hqe (by omega) HD.out.2.1) (And.intro (HD.out.2.2.2.2.2.1.mono hqe) (And.intro he (show w.heap.size + 2 ≤ we.heap.size from Nat.le_trans hzd hqe.size))))); clear he hqe cb2 cf2))
  have hze := HE.out.2.2.2.2
  have hlG := H.out.2.2.2.1 (-1) false
  have hlF := H.out.2.2.2.1 p val
  have hlit := H.out.2.2.1
  have HL : Hid ((∀ x ∈ c.outs, 0 ≤ x ∧ x ≤ 1000000 ∧ x / 2 < (evalV c k (-1) false).length) ∧ (∀ x ∈ c.outs, 0 ≤ x ∧ x ≤ 1000000 ∧ x / 2 < (evalV c k p val).length) ∧ (∀ x ∈ c.next, 0 ≤ x ∧ x ≤ 1000000 ∧ x / 2 < (evalV c k (-1) false).length) ∧ (∀ x ∈ c.next, 0 ≤ x ∧ x ≤ 1000000 ∧ x / 2 < (evalV c k p val).length)) :=
    ⟨fun x hx => by have := hlit x (by simp [hx]); omega, fun x hx => by have := hlit x (by simp [hx]); omega, fun x hx => by have := hlit x (by simp [hx]); omega, fun x hx => by have := hlit x (by simp [hx]); omega⟩
  have hlE := blk_lt HE.out.2.1
  have HS0 := Lib.hid (And.intro (H.out.2.2.2.2.2.2.2.2.2.1.mono HE.out.1) (H.out.2.2.2.2.2.2.2.2.2.2.mono HE.out.1))
  clear hlG hlF hlit
  refine wp_region_ord (fun w' => ∀ o, w'.cell? ⟨w.heap.size, o, none⟩ = #[Value.int .i64 ni, Value.slice sn c.next.length cn, Value.slice sg c.gates.length cg, Value.slice so c.outs.length co][o]?) ((0, false) :: (1, false) :: (2, false) :: (4, false) :: (5, false) :: (6, false) :: (3, true) :: (7, true) :: (8, true) :: (9, false) :: (10, false) :: (11, false) :: (12, false) :: (13, false) :: (15, false) :: (16, false) :: (17, false) :: (14, true) :: (18, true) :: (19, true) :: (20, false) :: (21, false) :: (22, false) :: []) (by kernel_rfl) (by kernel_rfl) (by kernel_rfl) (by kernel_rfl) (blk_all HE.out.2.1).1 ?_
  repeat (first | (refine ord_es (o := ?_) ?_ ?_ (by assumption) ?_; rotate_left 1; (focus ((simp only [List.getElem?_toArray, List.getElem?_cons_succ, List.getElem?_cons_zero]) <;> rfl)); (focus rfl); simp only [Act.put, List.setIfInBounds_toArray, List.set_cons_zero, List.set_cons_succ]) | (refine ord_s (o := ?_) ?_ ?_ ?_; rotate_left 1; (focus ((simp only [List.getElem?_toArray, List.getElem?_cons_succ, List.getElem?_cons_zero]) <;> rfl)); (focus rfl); simp only [Act.put, List.setIfInBounds_toArray, List.set_cons_zero, List.set_cons_succ]) | (refine ord_q (o := ?_) (v := ?_) ?_ ?_ ?_ ?_; rotate_left 2; (focus ((simp only [List.getElem?_toArray, List.getElem?_cons_succ, List.getElem?_cons_zero]) <;> rfl)); (focus rfl); (focus (intro w' hS; (try dsimp only at hS); go_split_ands; go_simp; (try (with_reducible rfl)))); simp only [Act.put, List.setIfInBounds_toArray, List.set_cons_zero, List.set_cons_succ]))
  (refine ord_e (o := ?_) ?_ ?_ (fun K hK => ?_); rotate_left 1; (focus ((simp only [List.getElem?_toArray, List.getElem?_cons_succ, List.getElem?_cons_zero]) <;> rfl)); (focus rfl); go_simp)
  refine (l2Lits_any _ _ _ _ _ _ _ (HE.out.2.2.1.drew) (HS0.out.2.drew) HL.out.1 (by omega)).mono ?_
  rintro e wf ⟨sf, cf, rfl, hf, hqf⟩
  have hbf : Below we.heap.size we wf := (Below.refl _ _).drew.trans hqf
  have HF := Lib.hid (And.intro hbf hf)
  have hSW := (blk_all (blk_below hbf hlE HE.out.2.1)).1
  refine hK.out _ _ hSW ?_
  clear hK K hqf hbf hf
  (try simp only [Act.put, List.setIfInBounds_toArray, List.set_cons_zero, List.set_cons_succ])
  repeat (first | (refine ord_es (o := ?_) ?_ ?_ (by assumption) ?_; rotate_left 1; (focus ((simp only [List.getElem?_toArray, List.getElem?_cons_succ, List.getElem?_cons_zero]) <;> rfl)); (focus rfl); simp only [Act.put, List.setIfInBounds_toArray, List.set_cons_zero, List.set_cons_succ]) | (refine ord_s (o := ?_) ?_ ?_ ?_; rotate_left 1; (focus ((simp only [List.getElem?_toArray, List.getElem?_cons_succ, List.getElem?_cons_zero]) <;> rfl)); (focus rfl); simp only [Act.put, List.setIfInBounds_toArray, List.set_cons_zero, List.set_cons_succ]) | (refine ord_q (o := ?_) (v := ?_) ?_ ?_ ?_ ?_; rotate_left 2; (focus ((simp only [List.getElem?_toArray, List.getElem?_cons_succ, List.getElem?_cons_zero]) <;> rfl)); (focus rfl); (focus (intro w' hS; (try dsimp only at hS); go_split_ands; go_simp; (try (with_reducible rfl)))); simp only [Act.put, List.setIfInBounds_toArray, List.set_cons_zero, List.set_cons_succ]))
  (refine ord_e (o := ?_) ?_ ?_ (fun K hK => ?_); rotate_left 1; (focus ((simp only [List.getElem?_toArray, List.getElem?_cons_succ, List.getElem?_cons_zero]) <;> rfl)); (focus rfl); go_simp)
  refine (l2Lits_any _ _ _ _ _ _ _ (HE.out.2.2.2.1.mono HF.out.1) (HS0.out.2.mono HF.out.1) HL.out.2.1 (by omega)).mono ?_
  rintro e wg ⟨sg2, cg2, rfl, hg, hqg⟩
  have hbg := HF.out.1.trans (hqg.mono HF.out.1.size)
  have HG := Lib.hid (And.intro hbg (And.intro (HF.out.2.mono hqg) hg))
  clear hSW
  have hSW := (blk_all (blk_below hbg hlE HE.out.2.1)).1
  refine hK.out _ _ hSW ?_
  clear hK K hqg hbg hg
  (try simp only [Act.put, List.setIfInBounds_toArray, List.set_cons_zero, List.set_cons_succ])
  repeat (first | (refine ord_es (o := ?_) ?_ ?_ (by assumption) ?_; rotate_left 1; (focus ((simp only [List.getElem?_toArray, List.getElem?_cons_succ, List.getElem?_cons_zero]) <;> rfl)); (focus rfl); simp only [Act.put, List.setIfInBounds_toArray, List.set_cons_zero, List.set_cons_succ]) | (refine ord_s (o := ?_) ?_ ?_ ?_; rotate_left 1; (focus ((simp only [List.getElem?_toArray, List.getElem?_cons_succ, List.getElem?_cons_zero]) <;> rfl)); (focus rfl); simp only [Act.put, List.setIfInBounds_toArray, List.set_cons_zero, List.set_cons_succ]) | (refine ord_q (o := ?_) (v := ?_) ?_ ?_ ?_ ?_; rotate_left 2; (focus ((simp only [List.getElem?_toArray, List.getElem?_cons_succ, List.getElem?_cons_zero]) <;> rfl)); (focus rfl); (focus (intro w' hS; (try dsimp only at hS); go_split_ands; go_simp; (try (with_reducible rfl)))); simp only [Act.put, List.setIfInBounds_toArray, List.set_cons_zero, List.set_cons_succ]))
  (refine ord_e (o := ?_) ?_ ?_ (fun K hK => ?_); rotate_left 1; (focus ((simp only [List.getElem?_toArray, List.getElem?_cons_succ, List.getElem?_cons_zero]) <;> rfl)); (focus rfl); go_simp)
  refine (l4Same_any sf sg2 (c.outs.map (litB (evalV c k (-1) false))) (c.outs.map (litB (evalV c k p val))) _ _ _ _ HG.out.2.1 HG.out.2.2 (by simp) (by simp) (by omega)).mono ?_
  rintro e wh ⟨rfl, hd⟩
  rw [← H.out.2.2.2.2.2.2.1]
  have hbh := HG.out.1.trans (hd.below _)
  have HH := Lib.hid hbh
  clear hSW
  have hSW := (blk_all (blk_below hbh hlE HE.out.2.1)).1
  refine hK.out _ _ hSW ?_
  clear hK K hd hbh
  (try simp only [Act.put, List.setIfInBounds_toArray, List.set_cons_zero, List.set_cons_succ])
  cases so1
  · repeat (first | (refine ord_es (o := ?_) ?_ ?_ (by assumption) ?_; rotate_left 1; (focus ((simp only [List.getElem?_toArray, List.getElem?_cons_succ, List.getElem?_cons_zero]) <;> rfl)); (focus rfl); simp only [Act.put, List.setIfInBounds_toArray, List.set_cons_zero, List.set_cons_succ]) | (refine ord_s (o := ?_) ?_ ?_ ?_; rotate_left 1; (focus ((simp only [List.getElem?_toArray, List.getElem?_cons_succ, List.getElem?_cons_zero]) <;> rfl)); (focus rfl); simp only [Act.put, List.setIfInBounds_toArray, List.set_cons_zero, List.set_cons_succ]) | (refine ord_q (o := ?_) (v := ?_) ?_ ?_ ?_ ?_; rotate_left 2; (focus ((simp only [List.getElem?_toArray, List.getElem?_cons_succ, List.getElem?_cons_zero]) <;> rfl)); (focus rfl); (focus (intro w' hS; (try dsimp only at hS); go_split_ands; go_simp; (try (with_reducible rfl)))); simp only [Act.put, List.setIfInBounds_toArray, List.set_cons_zero, List.set_cons_succ]))
    refine ord_nil ?_
    clear hSW
    go_wp2_with fail
    go_ret
    exact ⟨ret_bool (by rw [H.out.2.2.2.2.2.2.2.2.1]; rfl), HE.out.1.trans (HH.out.mono HE.out.1.size)⟩
  · repeat (first | (refine ord_es (o := ?_) ?_ ?_ (by assumption) ?_; rotate_left 1; (focus ((simp only [List.getElem?_toArray, List.getElem?_cons_succ, List.getElem?_cons_zero]) <;> rfl)); (focus rfl); simp only [Act.put, List.setIfInBounds_toArray, List.set_cons_zero, List.set_cons_succ]) | (refine ord_s (o := ?_) ?_ ?_ ?_; rotate_left 1; (focus ((simp only [List.getElem?_toArray, List.getElem?_cons_succ, List.getElem?_cons_zero]) <;> rfl)); (focus rfl); simp only [Act.put, List.setIfInBounds_toArray, List.set_cons_zero, List.set_cons_succ]) | (refine ord_q (o := ?_) (v := ?_) ?_ ?_ ?_ ?_; rotate_left 2; (focus ((simp only [List.getElem?_toArray, List.getElem?_cons_succ, List.getElem?_cons_zero]) <;> rfl)); (focus rfl); (focus (intro w' hS; (try dsimp only at hS); go_split_ands; go_simp; (try (with_reducible rfl)))); simp only [Act.put, List.setIfInBounds_toArray, List.set_cons_zero, List.set_cons_succ]))
    (refine ord_e (o := ?_) ?_ ?_ (fun K hK => ?_); rotate_left 1; (focus ((simp only [List.getElem?_toArray, List.getElem?_cons_succ, List.getElem?_cons_zero]) <;> rfl)); (focus rfl); go_simp)
    refine (l2Lits_any _ _ _ _ _ _ _ (HE.out.2.2.1.mono HH.out) (HS0.out.1.mono HH.out) HL.out.2.2.1 (by omega)).mono ?_
    rintro e wi ⟨sn3, cn3, rfl, hi, hqi⟩
    have hbi := HH.out.trans (hqi.mono HH.out.size)
    have HI := Lib.hid (And.intro hbi hi)
    clear hSW
    have hSW := (blk_all (blk_below hbi hlE HE.out.2.1)).1
    refine hK.out _ _ hSW ?_
    clear hK K hqi hbi hi
    (try simp only [Act.put, List.setIfInBounds_toArray, List.set_cons_zero, List.set_cons_succ])
    repeat (first | (refine ord_es (o := ?_) ?_ ?_ (by assumption) ?_; rotate_left 1; (focus ((simp only [List.getElem?_toArray, List.getElem?_cons_succ, List.getElem?_cons_zero]) <;> rfl)); (focus rfl); simp only [Act.put, List.setIfInBounds_toArray, List.set_cons_zero, List.set_cons_succ]) | (refine ord_s (o := ?_) ?_ ?_ ?_; rotate_left 1; (focus ((simp only [List.getElem?_toArray, List.getElem?_cons_succ, List.getElem?_cons_zero]) <;> rfl)); (focus rfl); simp only [Act.put, List.setIfInBounds_toArray, List.set_cons_zero, List.set_cons_succ]) | (refine ord_q (o := ?_) (v := ?_) ?_ ?_ ?_ ?_; rotate_left 2; (focus ((simp only [List.getElem?_toArray, List.getElem?_cons_succ, List.getElem?_cons_zero]) <;> rfl)); (focus rfl); (focus (intro w' hS; (try dsimp only at hS); go_split_ands; go_simp; (try (with_reducible rfl)))); simp only [Act.put, List.setIfInBounds_toArray, List.set_cons_zero, List.set_cons_succ]))
    (refine ord_e (o := ?_) ?_ ?_ (fun K hK => ?_); rotate_left 1; (focus ((simp only [List.getElem?_toArray, List.getElem?_cons_succ, List.getElem?_cons_zero]) <;> rfl)); (focus rfl); go_simp)
    refine (l2Lits_any _ _ _ _ _ _ _ (HE.out.2.2.2.1.mono HI.out.1) (HS0.out.1.mono HI.out.1) HL.out.2.2.2 (by omega)).mono ?_
    rintro e wj ⟨sj, cj, rfl, hj, hqj⟩
    have hbj := HI.out.1.trans (hqj.mono HI.out.1.size)
    have HJ := Lib.hid (And.intro hbj (And.intro (HI.out.2.mono hqj) hj))
    clear hSW
    have hSW := (blk_all (blk_below hbj hlE HE.out.2.1)).1
    refine hK.out _ _ hSW ?_
    clear hK K hqj hbj hj
    (try simp only [Act.put, List.setIfInBounds_toArray, List.set_cons_zero, List.set_cons_succ])
    repeat (first | (refine ord_es (o := ?_) ?_ ?_ (by assumption) ?_; rotate_left 1; (focus ((simp only [List.getElem?_toArray, List.getElem?_cons_succ, List.getElem?_cons_zero]) <;> rfl)); (focus rfl); simp only [Act.put, List.setIfInBounds_toArray, List.set_cons_zero, List.set_cons_succ]) | (refine ord_s (o := ?_) ?_ ?_ ?_; rotate_left 1; (focus ((simp only [List.getElem?_toArray, List.getElem?_cons_succ, List.getElem?_cons_zero]) <;> rfl)); (focus rfl); simp only [Act.put, List.setIfInBounds_toArray, List.set_cons_zero, List.set_cons_succ]) | (refine ord_q (o := ?_) (v := ?_) ?_ ?_ ?_ ?_; rotate_left 2; (focus ((simp only [List.getElem?_toArray, List.getElem?_cons_succ, List.getElem?_cons_zero]) <;> rfl)); (focus rfl); (focus (intro w' hS; (try dsimp only at hS); go_split_ands; go_simp; (try (with_reducible rfl)))); simp only [Act.put, List.setIfInBounds_toArray, List.set_cons_zero, List.set_cons_succ]))
    (refine ord_e (o := ?_) ?_ ?_ (fun K hK => ?_); rotate_left 1; (focus ((simp only [List.getElem?_toArray, List.getElem?_cons_succ, List.getElem?_cons_zero]) <;> rfl)); (focus rfl); go_simp)
    refine (l4Same_any sn3 sj (c.next.map (litB (evalV c k (-1) false))) (c.next.map (litB (evalV c k p val))) _ _ _ _ HJ.out.2.1 HJ.out.2.2 (by simp) (by simp) (by omega)).mono ?_
    rintro e wk ⟨rfl, hd⟩
    rw [← H.out.2.2.2.2.2.2.2.1]
    have hbk := HJ.out.1.trans (hd.below _)
    have HK2 := Lib.hid hbk
    clear hSW
    have hSW := (blk_all (blk_below hbk hlE HE.out.2.1)).1
    refine hK.out _ _ hSW ?_
    clear hK K hd hbk
    (try simp only [Act.put, List.setIfInBounds_toArray, List.set_cons_zero, List.set_cons_succ])
    repeat (first | (refine ord_es (o := ?_) ?_ ?_ (by assumption) ?_; rotate_left 1; (focus ((simp only [List.getElem?_toArray, List.getElem?_cons_succ, List.getElem?_cons_zero]) <;> rfl)); (focus rfl); simp only [Act.put, List.setIfInBounds_toArray, List.set_cons_zero, List.set_cons_succ]) | (refine ord_s (o := ?_) ?_ ?_ ?_; rotate_left 1; (focus ((simp only [List.getElem?_toArray, List.getElem?_cons_succ, List.getElem?_cons_zero]) <;> rfl)); (focus rfl); simp only [Act.put, List.setIfInBounds_toArray, List.set_cons_zero, List.set_cons_succ]) | (refine ord_q (o := ?_) (v := ?_) ?_ ?_ ?_ ?_; rotate_left 2; (focus ((simp only [List.getElem?_toArray, List.getElem?_cons_succ, List.getElem?_cons_zero]) <;> rfl)); (focus rfl); (focus (intro w' hS; (try dsimp only at hS); go_split_ands; go_simp; (try (with_reducible rfl)))); simp only [Act.put, List.setIfInBounds_toArray, List.set_cons_zero, List.set_cons_succ]))
    refine ord_nil ?_
    clear hSW
    go_wp2_with fail
    go_ret
    exact ⟨ret_bool (by rw [H.out.2.2.2.2.2.2.2.2.1]; rfl), HE.out.1.trans (HK2.out.mono HE.out.1.size)⟩

end Go.Proofs.Ytindndcdpnpcmaa
