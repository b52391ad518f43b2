import Derived.Test.YtddmgphlhfilnaaCI
import Derived.Test.YtddmgphlhfilnaaCC
import Derived.Test.YtddmgphlhfilnaaZ7
namespace Go.Proofs.Ytddmgphlhfilnaa
set_option linter.unusedVariables false
set_option linter.unusedSimpArgs false
open Go.RowKit

/-! The law FnSatisfy. -/

theorem DrawSatisfy_any (s : Option Addr) (cap : Nat) (xs : List Int) (w : World) (hs : Sl w s (u8s xs)) (hl : xs.length ≤ 1048576) (hcap : xs.length ≤ cap) (hcap2 : cap ≤ 9223372036854775807) (hr : ∀ x ∈ xs, 0 ≤ x ∧ x ≤ 255) :
    Calls Try.prog 48 #[.slice s xs.length cap] w (DrawnF w) := by
  have HH := Lib.hid (l20Open_any s cap xs w hs hl hcap hcap2 hr)
  clear hs hr
  go_enter Try.func48, Try.ntmps48
  go_wp2_with (first
    | (go_at_call 56; (with_reducible refine HH.out.mono ?_); rintro e w1 ⟨c, rfl, h1, h2, h3⟩; have H1 := Lib.hid (And.intro h1 (And.intro h2 h3)); clear h1 h2 h3)
    | (go_at_call 83; (with_reducible refine (l20Clauses_any _ _ _ _ _ _ _ H1.out.1 (by omega) (by omega) (by omega)).mono ?_); rintro e w2 ⟨s', c', rows, p', rfl, h1, h2, h3, h4, h5, h6⟩; have H2 := Lib.hid (And.intro h1 (And.intro h2 (And.intro h3 h6))); clear h1 h2 h3 h4 h5 h6))
  go_ret
  obtain ⟨h1, h2, h3, h4⟩ := H2.out
  obtain ⟨g1, g2, g3⟩ := H1.out
  have hs2 := g2.size
  exact ⟨s', c', rows, rfl, h1.ss.base (by omega), h2, h3, g2.trans (h4.below (Nat.le_refl _) (by omega))⟩

theorem tri_bit (z : Int) (h : 0 ≤ z) : wrap64 (wrap64 (2 * z.tmod 2) - 1) = 0 ∨ wrap64 (wrap64 (2 * z.tmod 2) - 1) = 1 ∨ wrap64 (wrap64 (2 * z.tmod 2) - 1) = -1 := by
  rw [Int.tmod_eq_emod_of_nonneg h]
  rcases Int.emod_two_eq z with e | e <;> rw [e] <;> simp [wrap64]
theorem shr_nn (y j : Nat) : 0 ≤ (y : Int) / 2 ^ j := by
  have : ((y : Int) / 2 ^ j) = ((y / 2 ^ j : Nat) : Int) := by simp
  rw [this]; exact Int.natCast_nonneg _
theorem no_model {F : List (List Int)} (h : isRes F zero26 none) (h25 : ∀ r ∈ F, ∀ n ∈ r, lit25 n) {ys : List Int} (hy : WV ys) : holdsV ys F = false := by
  cases hh : holdsV ys F with
  | false => rfl
  | true => exact absurd ⟨fillV_tot hy, fun i _ _ h0 => absurd (zero_get i) h0, fillV_holds hy h25 hh⟩ (h _)
theorem satP_some {F : List (List Int)} {r : List Int} (h : satP F (some r)) : clausesB F = true ∧ WV.tot r ∧ holdsV r F = true := by
  rcases h with ⟨h1, h2⟩ | ⟨_, h2⟩
  · exact ⟨h1, h2.1.1, h2.1.2.2⟩
  · cases h2

set_option maxRecDepth 100000 in
set_option maxHeartbeats 1600000 in
theorem FnSatisfy_any (s : Option Addr) (cap : Nat) (xs : List Int) (w : World) (hs : Sl w s (u8s xs)) (hl : xs.length ≤ 9223372036854775807) (hcap : xs.length ≤ cap) (hcap2 : cap ≤ 9223372036854775807) (hr : ∀ x ∈ xs, 0 ≤ x ∧ x ≤ 255) :
    Calls Try.prog 12 #[.slice s xs.length cap] w fun e w' => e = .returned (.bool true) ∧ Below w.heap.size w w' := by
  by_cases hc : xs.length ≤ 1048576
  · have HD := Lib.hid (DrawSatisfy_any s cap xs w hs hc hcap hcap2 hr)
    clear hs hr
    go_enter Try.func12, Try.ntmps12
    go_upto_region 6 with (first
      | (go_at_call 48; (with_reducible refine HD.out.mono ?_); rintro e w1 ⟨s1, c1, F, rfl, h1, h2, h3, h4⟩; have H1 := Lib.hid (And.intro h1.sls (And.intro h3 (And.intro h4 (show ∀ r ∈ F, r.length ≤ 1048576 from fun r hr => Nat.le_trans (h3 r hr) (by decide))))); have hF81 := h2; clear h1 h2 h3 h4)
      | (go_at_call 42; ((with_reducible refine (Satisfy_i _ _ F _ H1.out.1 (by omega) H1.out.2.2.2).mono ?_); rintro e w2 ⟨s2, c2, o, rfl, a1, a2, a3⟩; have H2 := Lib.hid (And.intro (own_sl a1) (And.intro a2 a3)); clear a1 a2 a3))
      | (go_at_call 40; ((with_reducible refine (Satisfy_s _ _ F _ (H1.out.1.mono H2.out.2.2) (by omega) H1.out.2.2.2).mono ?_); rintro e w3 ⟨s3, c3, o', rfl, a1, a2, a3⟩; obtain rfl : o' = o := satP_uniq a2 H2.out.2.1; have H3 := Lib.hid (And.intro (H2.out.1.mono a3) (And.intro a1 (And.intro a2 (And.intro (H2.out.2.2.trans (a3.mono H2.out.2.2.size)) ((H1.out.2.2.1.trans (H2.out.2.2.mono H1.out.2.2.1.size)).trans (a3.mono (Nat.le_trans H1.out.2.2.1.size H2.out.2.2.size))))))); clear a1 a2 a3)))
    obtain ⟨r, hr⟩ : ∃ r, r = o'.getD [] := ⟨_, rfl⟩
    have hr26 : r.length ≤ 26 := by rw [hr]; exact satP_len H3.out.2.2.1
    have HW : Hid (∀ W, Below w3.heap.size w3 W → SlS W s1 F ∧ Sl W s2 (ints r) ∧ Sl W s3 (ints r) ∧ Below w.heap.size w W) := fun W hW => by
      have h4 := H3.out.2.2.2.1
      exact ⟨H1.out.1.mono (h4.trans (hW.mono h4.size)), by rw [hr]; exact H3.out.1.mono hW, by rw [hr]; exact H3.out.2.1.mono hW, H3.out.2.2.2.2.trans (hW.mono H3.out.2.2.2.2.size)⟩
    have HO := Lib.hid (And.intro H3.out.2.2.1 hr)
    rw [← hr]
    have h2' := HW.out _ (Below.refl _ _)
    clear H3 H2 hr h2'
    cases o' with
    | none =>
      have hr0 : r.length = 0 := by rw [HO.out.2]; rfl
      have HR0 := Lib.hid hr0
      clear hr0
      simp only [Option.isSome_none]
      go_upto_region 8 with (go_at_call 49; ((with_reducible refine (sameInts_any s2 s3 c2 c3 r r _ (HW.out _ (Below.refl _ _)).2.1 (HW.out _ (Below.refl _ _)).2.2.1 (by omega) (by omega) rfl).mono ?_); rintro e w4 ⟨rfl, n4, rfl⟩))
      cases hv : clausesB F
      · have HV := Lib.hid hv
        clear hv
        have hn0 := HR0.out
        go_wp2_with (first
          | (go_at_call 50; ((with_reducible refine (ClausesValid_s s1 c1 F _ (HW.out _ (below_n (Below.refl _ _) _)).1 (by omega) H1.out.2.2.2).mono ?_); rintro e w5 ⟨rfl, rfl⟩; rw [HV.out]))
          | (go_at_call 21; ((with_reducible refine (alive_any _).mono ?_); rintro e w7 ⟨rfl, hq⟩; have HA := Lib.hid ((below_n (Below.refl w3.heap.size w3) n4).trans hq); clear hq)))
        go_ret
        exact ⟨rfl, (HW.out _ HA.out).2.2.2⟩
      · obtain ⟨hcl, hno⟩ : clausesP F ∧ isRes F zero26 none := by
          rcases HO.out.1 with ⟨g1, g2⟩ | ⟨g1, g2⟩
          · exact ⟨by simpa [clausesB] using g1, g2⟩
          · rw [hv] at g1; cases g1
        have h25 : ∀ c ∈ F, c.length ≤ 3 ∧ ∀ n ∈ c, lit25 n := hcl.2
        have HV := Lib.hid (And.intro hv (And.intro h25 hno))
        clear hv hcl hno h25
        go_upto_region 19 with (go_at_call 50; ((with_reducible refine (ClausesValid_s s1 c1 F _ (HW.out _ (below_n (Below.refl _ _) _)).1 (by omega) H1.out.2.2.2).mono ?_); rintro e w5 ⟨rfl, rfl⟩; rw [HV.out.1]))
        have hbn := below_n (Below.refl w3.heap.size w3) n4
        go_loopw [10, 9] (fun v10 v9 wr => ∃ (k t : Nat), k ≤ F.length ∧ v10 = .int .i64 k ∧ v9 = .int .i64 t ∧ t ≤ 25 ∧ Below w3.heap.size w3 wr) (fun v10 _ _ => F.length - (intOf v10).toNat)
        case atStart => exact ⟨0, 0, Nat.zero_le _, rfl, rfl, by omega, hbn⟩
        case round =>
          clear hbn
          obtain ⟨k, t, hk, rfl, rfl, ht, hb⟩ := hrel
          by_cases hlt : k < F.length
          · obtain ⟨x, hx⟩ := get_of_lt hlt
            obtain ⟨b, off, sr, cr, rfl, hbw, hz, hsr⟩ := (HW.out _ hb).1.row (Below.refl _ _) hx
            have hxl := (HV.out.2.1 x (List.mem_of_getElem? hx)).1
            have HX := Lib.hid (And.intro hx hb)
            clear hx hsr
            go_wp2_with fail
            go_loopw [11, 9] (fun v11 v9 wr' => ∃ (m t : Nat), m ≤ x.length ∧ v11 = .int .i64 m ∧ v9 = .int .i64 t ∧ t ≤ 25 ∧ Below w3.heap.size w3 wr') (fun v11 _ _ => x.length - (intOf v11).toNat)
            case atStart => exact ⟨0, t, Nat.zero_le _, rfl, rfl, ht, hb⟩
            case round =>
              clear hz hbw hb
              obtain ⟨m, t, hm, rfl, rfl, ht, hb⟩ := hrel
              obtain ⟨b', off', sr, cr, e, hbw, hz, hsr⟩ := (HW.out _ hb).1.row (Below.refl _ _) HX.out.1
              cases e
              by_cases hlt2 : m < x.length
              · obtain ⟨n, hn⟩ := get_of_lt hlt2
                obtain ⟨b2, off2, rfl, hbw2, hz2⟩ := hsr.int (Below.refl _ _) hn
                obtain ⟨T, t1, t2, t3⟩ := setL_var ((HV.out.2.1 x (List.mem_of_getElem? HX.out.1)).2 n (List.mem_of_getElem? hn))
                have HBB := Lib.hid hb
                have e1 : IntKind.i64.wrap (T : Int) = T := IntWalk.i64_in _ ⟨by omega, by omega⟩
                have e2 : IntKind.i64.wrap (-(T : Int)) = -(T : Int) := IntWalk.i64_in _ ⟨by omega, by omega⟩
                have hm1 : max (T : Int) (-(T : Int)) = (T : Int) := by omega
                have hm2 : max (-(T : Int)) (T : Int) = (T : Int) := by omega
                clear hn hsr hb
                rcases t3 with ⟨t3, rfl⟩ | ⟨t3, rfl⟩
                all_goals
                  go_upto_region 24 with fail
                  refine wp_region_T (fun w' => w'.cell? ⟨b, off + k, none⟩ = some (.slice (some ⟨b2, off2, none⟩) x.length cr) ∧ w'.cell? ⟨b2, off2 + m, none⟩ = some (.int .i64 _)) (.q 0 (.q 1 (.q 2 (.q 3 (.q 4 (.q 5 (.q 6 (.q 7 (.q 8 (.q 9 (.q 10 (.q 11 (.q 12 (.q 13 (.q 14 (.q 15 (.q 16 (.q 17 (.q 18 .nil))))))))))))))))))) (by kernel_rfl) (by kernel_rfl) (by kernel_rfl) ⟨hz, hz2⟩ ?_
                  repeat (first | (refine ordt_s (o := ?_) ?_ ?_ ?_; rotate_left 1; (focus ((simp only [List.getElem?_toArray, List.getElem?_cons_succ, List.getElem?_cons_zero]) <;> rfl)); (focus rfl); simp only [Act.put, List.setIfInBounds_toArray, List.set_cons_zero, List.set_cons_succ]) | (refine ordt_q (o := ?_) (v := ?_) ?_ ?_ ?_ ?_; rotate_left 2; (focus ((simp only [List.getElem?_toArray, List.getElem?_cons_succ, List.getElem?_cons_zero]) <;> rfl)); (focus rfl); (focus (intro w' hS; (try dsimp only at hS); go_split_ands; go_simp; (try (with_reducible rfl)))); simp only [Act.put, List.setIfInBounds_toArray, List.set_cons_zero, List.set_cons_succ]))
                  refine ordt_nil ?_
                  go_wp2_with fail
                all_goals
                  go_roundw
                · exact ⟨m + 1, max t T, by omega, by go_num, by congr 1; (repeat' split) <;> omega, by omega, HBB.out.drew⟩
                · simp [intOf]; omega
                · exact ⟨m + 1, max t T, by omega, by go_num, by congr 1; (repeat' split) <;> omega, by omega, HBB.out.drew⟩
                · simp [intOf]; omega
              · obtain rfl : m = x.length := by omega
                have HBB := Lib.hid hb
                clear hsr hb
                go_wp2_with fail
                go_roundw
                case rel => exact ⟨k + 1, t, by omega, by go_num, rfl, ht, HBB.out⟩
                case measure => simp [intOf]; omega
          · obtain rfl : k = F.length := by omega
            have HBB := Lib.hid hb
            clear hb
            by_cases ht8 : 8 < t
            · go_wp2_with fail
              go_ret
              exact ⟨rfl, (HW.out _ HBB.out).2.2.2⟩
            · obtain ⟨N, hN⟩ : ∃ N, N = 2 ^ t := ⟨_, rfl⟩
              have hwq : wrap64 (2 ^ t) = (N : Int) := by rw [wrap_pow (by omega), hN]; simp
              have hN8 : N ≤ 256 := by rw [hN]; exact Nat.le_trans (Nat.pow_le_pow_right (by omega) (show t ≤ 8 by omega)) (by decide)
              clear hN
              go_upto_region 28 with fail
              go_loopw [12] (fun v12 wr => ∃ y : Nat, y ≤ N ∧ v12 = .int .i64 y ∧ Below w3.heap.size w3 wr) (fun v12 _ => N - (intOf v12).toNat)
              case atStart => exact ⟨0, Nat.zero_le _, rfl, HBB.out⟩
              case round =>
                obtain ⟨y, hy, rfl, hb⟩ := hrel
                have hmk : ∀ w, (Instr.makeSlice 36 (.int .i64 26) (.int .i64 26)).run Try.prog w = .ok (.slice (some ⟨w.heap.size, 0, none⟩) 26 26) (w.alloc (.cells (ints zero26).toArray 3)) := fun w => mkInts w 26 (by omega)
                have hbz := hb.size
                have hb2 := hb.alloc hbz (.cells (ints zero26).toArray 3)
                have hg := blk_new wr (.cells (ints zero26).toArray 3)
                go_upto_region 32 with fail
                · have hlt : y < N := by
                    rename_i hh; omega
                  obtain ⟨G, hG⟩ : ∃ G, G = wr.heap.size := ⟨_, rfl⟩
                  rw [← hG] at hg hbz ⊢
                  clear hmk hG hb
                  go_loopw [14] (fun v14 wr' => ∃ (j : Nat) (ys : List Int), j ≤ t ∧ v14 = .int .i64 (j + 1) ∧ WV ys ∧ wr'.heap[G]? = some (.cells (ints ys).toArray 3 (0, 0)) ∧ Below w3.heap.size w3 wr') (fun v14 _ => t + 1 - (intOf v14).toNat)
                  case atStart => exact ⟨0, zero26, Nat.zero_le _, rfl, zero26_wv, hg, hb2⟩
                  case round =>
                    clear hg hb2
                    obtain ⟨j, ys, hj, rfl, hw, hg, hb⟩ := hrel
                    by_cases hlt2 : j < t
                    · obtain ⟨u, hu⟩ := get_of_lt (l := ys) (k := j + 1) (by rw [hw.len]; omega)
                      have z1 := ints_cell hg hu
                      have z2 : World.frozen? _ ⟨G, j + 1, none⟩ = false := blk_free hg
                      obtain ⟨q1, q2⟩ := shr_bd (y : Int) (j : Int) (by omega) (by omega)
                      have HQ := Lib.hid (And.intro hw (And.intro hg hb))
                      clear hw hg hb hu
                      go_wp2_with fail
                      go_roundw
                      case rel => exact ⟨j + 1, ys.set (j + 1) (wrap64 (wrap64 (2 * ((y : Int) / 2 ^ j).tmod 2) - 1)), by omega, by go_num, HQ.out.1.set (by omega) (by omega) (tri_bit _ (shr_nn y j)), ints_blk_set HQ.out.2.1 _ _, HQ.out.2.2.setCell hbz _⟩
                      case measure => simp [intOf]; omega
                    · obtain rfl : j = t := by omega
                      have HQ := Lib.hid (And.intro hw (And.intro hg hb))
                      clear hw hg hb
                      go_wp2_with (go_at_call 51; ((with_reducible refine (holds_any s1 (some ⟨G, 0, none⟩) c1 26 F ys _ (HW.out _ HQ.out.2.2).1 (by have := Sl.blk HQ.out.2.1; simpa using this) (by omega) (fun r hr => Nat.le_trans (HV.out.2.1 r hr).1 (by omega)) HQ.out.1.len (fun r hr => (HV.out.2.1 r hr).2)).mono ?_); rintro e w5 ⟨rfl, rfl⟩; rw [no_model HV.out.2.2 (fun r hr => (HV.out.2.1 r hr).2) HQ.out.1]))
                      go_roundw
                      case rel => exact ⟨y + 1, by omega, by go_num, HQ.out.2.2⟩
                      case measure => simp [intOf]; omega
                · go_wp2_with fail
                  go_ret
                  exact ⟨rfl, (HW.out _ hb).2.2.2⟩
    | some r' =>
      obtain rfl : r = r' := HO.out.2
      simp only [Option.isSome_some]
      obtain ⟨k1, k2, k3⟩ := satP_some HO.out.1
      have HK := Lib.hid (And.intro k1 (And.intro k2 k3))
      clear k1 k2 k3
      go_upto_region 8 with (go_at_call 49; go_loud ((with_reducible refine (sameInts_any s2 s3 c2 c3 r r _ (HW.out _ (Below.refl _ _)).2.1 (HW.out _ (Below.refl _ _)).2.2.1 (by omega) (by omega) rfl).mono ?_); rintro e w4 ⟨rfl, n4, rfl⟩))
      have hcl : clausesP F := by have := HK.out.1; simpa [clausesB] using this
      have h25 : ∀ c ∈ F, c.length ≤ 3 ∧ ∀ n ∈ c, lit25 n := hcl.2
      have HV := Lib.hid h25
      clear hcl h25
      go_upto_region 12 with (go_at_call 50; ((with_reducible refine (ClausesValid_s s1 c1 F _ (HW.out _ (below_n (Below.refl _ _) _)).1 (by omega) H1.out.2.2.2).mono ?_); rintro e w5 ⟨rfl, rfl⟩; rw [HK.out.1]))
      have hq := below_n (Below.refl w3.heap.size w3) n4
      obtain ⟨-, k2, k3, -⟩ := HW.out _ hq
      have HW4 := Lib.hid (HW.out _ hq)
      clear hq k2 k3
      have hr0 := HK.out.2.1.1.len
      go_loop [8] (fun v8 => ∃ k : Nat, k ≤ 25 ∧ v8 = .int .i64 (k + 1)) (fun v8 => 26 - (intOf v8).toNat)
      case atStart => exact ⟨0, by omega, rfl⟩
      case round =>
        obtain ⟨k, hk, rfl⟩ := hrel
        by_cases hlt : k < 25
        · obtain ⟨x, hx⟩ := get_of_lt (l := r) (k := k + 1) (by omega)
          obtain ⟨b2, off2, rfl, hbw2, hz2⟩ := HW4.out.2.1.int (Below.refl _ _) hx
          have htri : x = 1 ∨ x = -1 := by
            have e : r.getD (k + 1) 0 = x := by rw [List.getD_eq_getElem?_getD, hx]; rfl
            have g1 := HK.out.2.1.1.tri (k + 1)
            have g2 := HK.out.2.1.2 (k + 1) (by omega) (by omega)
            rw [e] at g1 g2; omega
          clear hx
          rcases htri with rfl | rfl
          all_goals
            go_wp2_with fail
          all_goals
            go_round
          all_goals first
            | (case rel => exact ⟨k + 1, by omega, by go_num⟩)
            | (case measure => simp [intOf]; omega)
        · obtain rfl : k = 25 := by omega
          go_wp2_with (go_at_call 51; ((refine (holds_any s1 s2 c1 c2 F r _ HW4.out.1 HW4.out.2.1 (by omega) (fun r hr => Nat.le_trans (HV.out r hr).1 (by omega)) hr0 (fun r hr => (HV.out r hr).2)).mono ?_); rintro e w5 ⟨rfl, rfl⟩; rw [HK.out.2.2]))
          go_ret
          exact ⟨rfl, HW4.out.2.2.2⟩
  · clear hs hr
    go_enter Try.func12, Try.ntmps12
    go_wp2
    go_ret
    exact ⟨rfl, Below.refl _ _⟩

end Go.Proofs.Ytddmgphlhfilnaa
