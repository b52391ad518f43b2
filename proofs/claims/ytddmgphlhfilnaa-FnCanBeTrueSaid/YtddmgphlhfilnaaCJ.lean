import Derived.Test.YtddmgphlhfilnaaCI
import Derived.Test.YtddmgphlhfilnaaBH
import Derived.Test.YtddmgphlhfilnaaBJ
import Derived.Test.YtddmgphlhfilnaaBD
import Derived.Test.YtddmgphlhfilnaaCC
import Derived.Test.YtddmgphlhfilnaaZ2
import Derived.Test.YtddmgphlhfilnaaZ8
namespace Go.Proofs.Ytddmgphlhfilnaa
set_option linter.unusedVariables false
set_option linter.unusedSimpArgs false
open Go.RowKit

/-! The law FnCanBeTrue. -/

theorem any_succ (f : Nat → Bool) (k : Nat) : (List.range (k + 1)).any f = ((List.range k).any f || f k) := by simp [List.range_succ]

set_option maxHeartbeats 800000 in
theorem DrawCanBeTrue_any (s : Option Addr) (cap : Nat) (xs : List Int) (w : World) (hs : Sl w s (u8s xs)) (hl : xs.length ≤ 1048576) (hcap : xs.length ≤ cap) (hcap2 : cap ≤ 9223372036854775807) (hr : ∀ x ∈ xs, 0 ≤ x ∧ x ≤ 255) :
    Calls Try.prog 54 #[.slice s xs.length cap] w (DrawnCK w) := by
  obtain ⟨W0, hW0⟩ : ∃ W0, W0 = w.alloc (.cells #[.int .i64 0, .slice none 0 0, .slice none 0 0, .slice none 0 0] 44) := ⟨_, rfl⟩
  have hz : W0.heap.size = w.heap.size + 1 := by rw [hW0]; simp
  have hb0 : Below w.heap.size w W0 := by rw [hW0]; exact below_alloc _ _
  have hk0 : W0.heap[w.heap.size]? = some (.cells #[.int .i64 0, .slice none 0 0, .slice none 0 0, .slice none 0 0] 44 (0, 0)) := by rw [hW0]; exact blk_new _ _
  have HH := Lib.hid (DrawBuildBdd_any s cap xs W0 (hs.mono hb0) hl hcap hcap2 hr)
  have HW := Lib.hid (And.intro hW0 (And.intro hz (And.intro hb0 hk0)))
  clear hs hr hW0 hz hb0 hk0
  go_enter Try.func54, Try.ntmps54
  go_upto_region 1 with fail
  rw [← HW.out.1]
  go_wp2_with (go_at_call 34; (with_reducible refine HH.out.mono ?_); rintro e w1 ⟨C, li, vn, vg, vo, rfl, h1, h2, h3, h4⟩; obtain ⟨sn, cn, rfl⟩ := own_shape h1.n; obtain ⟨sg, cg, rfl⟩ := own_shape h1.g; obtain ⟨so, co, rfl⟩ := own_shape h1.o; have h0 : w1.heap[w.heap.size]? = some (.cells #[.int .i64 0, .slice none 0 0, .slice none 0 0, .slice none 0 0] 44 (0, 0)) := (by have e1 := HW.out.2.1; exact blk_below h4 (by omega) HW.out.2.2.2); obtain ⟨rc, rf⟩ := blk_all h0; have HI := Lib.hid (And.intro h1 (And.intro h2 (And.intro h3 (And.intro h4 h0)))); clear h0 h1 h2 h3 h4)
  have e1 := HW.out.2.1
  have hbl : Below w.heap.size w w1 := HW.out.2.2.1.trans (HI.out.2.2.2.1.mono (by omega))
  have e2 := hbl.size
  have hZ : ((((w1.setCell ⟨w.heap.size, 0, none⟩ (.int .i64 C.inp)).setCell ⟨w.heap.size, 1, none⟩ (.slice sn C.next.length cn)).setCell ⟨w.heap.size, 2, none⟩ (.slice sg C.gates.length cg)).setCell ⟨w.heap.size, 3, none⟩ (.slice so C.outs.length co)).heap[w.heap.size]? = some (.cells #[.int .i64 C.inp, .slice sn C.next.length cn, .slice sg C.gates.length cg, .slice so C.outs.length co] 44 (0, 0)) := by
    simpa using blk_set (o := 3) (v := .slice so C.outs.length co) (blk_set (o := 2) (v := .slice sg C.gates.length cg) (blk_set (o := 1) (v := .slice sn C.next.length cn) (blk_set (o := 0) (v := .int .i64 C.inp) HI.out.2.2.2.2)))
  have hR := (HI.out.1).sets4 (r := w.heap.size) (by omega) (base := w.heap.size) (by omega) (a := .int .i64 C.inp) (b' := .slice sn C.next.length cn) (c' := .slice sg C.gates.length cg) (d := .slice so C.outs.length co)
  have hB := ((((hbl).setCell (p := ⟨w.heap.size, 0, none⟩) (by simp) (.int .i64 C.inp)).setCell (p := ⟨w.heap.size, 1, none⟩) (by simp) (.slice sn C.next.length cn)).setCell (p := ⟨w.heap.size, 2, none⟩) (by simp) (.slice sg C.gates.length cg)).setCell (p := ⟨w.heap.size, 3, none⟩) (by simp) (.slice so C.outs.length co)
  clear rc rf
  revert hZ hR hB
  generalize ((((w1.setCell ⟨w.heap.size, 0, none⟩ (.int .i64 C.inp)).setCell ⟨w.heap.size, 1, none⟩ (.slice sn C.next.length cn)).setCell ⟨w.heap.size, 2, none⟩ (.slice sg C.gates.length cg)).setCell ⟨w.heap.size, 3, none⟩ (.slice so C.outs.length co)) = WZ
  intro hZ hR hB
  have cr := (blk_all hZ).1
  exact bodyPost_ret (v := .tuple #[.agg #[.int .i64 C.inp, .slice sn C.next.length cn, .slice sg C.gates.length cg, .slice so C.outs.length co], .int .i64 li]) (by simp [results, Try.results54, go_sem, cr]) rfl ⟨C, li, _, _, _, rfl, hR, HI.out.2.1, HI.out.2.2.1, hB⟩

set_option maxRecDepth 100000 in
set_option maxHeartbeats 3200000 in
theorem FnCanBeTrue_any (s : Option Addr) (cap : Nat) (xs : List Int) (w : World) (hs : Sl w s (u8s xs)) (hl : xs.length ≤ 9223372036854775807) (hcap : xs.length ≤ cap) (hcap2 : cap ≤ 9223372036854775807) (hr : ∀ x ∈ xs, 0 ≤ x ∧ x ≤ 255) :
    Calls Try.prog 14 #[.slice s xs.length cap] w fun e w' => e = .returned (.bool true) ∧ Below w.heap.size w w' := by
  by_cases hc : xs.length ≤ 1048576
  · have HD := Lib.hid (DrawCanBeTrue_any s cap xs w hs hc hcap hcap2 hr)
    clear hs hr
    go_enter Try.func14, Try.ntmps14
    go_upto_region 4 with (go_at_call 54; (with_reducible refine HD.out.mono ?_); rintro e w1 ⟨C, i, vn, vg, vo, rfl, h1, h2, h3, h4⟩; obtain ⟨sn, cn, rfl⟩ := own_shape h1.n; obtain ⟨sg, cg, rfl⟩ := own_shape h1.g; obtain ⟨so, co, rfl⟩ := own_shape h1.o; have H1 := Lib.hid (And.intro h1 h4); obtain ⟨l1, l2, l3, l4, l5⟩ := h2; obtain ⟨i1, i2⟩ := h3; clear h1 h4)
    obtain ⟨B, hB⟩ : ∃ B, B = w1.heap.size := ⟨_, rfl⟩
    have hk := blk_new w1 (.cells #[.int .i64 C.inp, .slice sn C.next.length cn, .slice sg C.gates.length cg, .slice so C.outs.length co] 44)
    have hbb := below_alloc w1 (.cells #[.int .i64 C.inp, .slice sn C.next.length cn, .slice sg C.gates.length cg, .slice so C.outs.length co] 44)
    have hV : CirV (w1.alloc (.cells #[.int .i64 C.inp, .slice sn C.next.length cn, .slice sg C.gates.length cg, .slice so C.outs.length co] 44)) (.agg #[.int .i64 C.inp, .slice sn C.next.length cn, .slice sg C.gates.length cg, .slice so C.outs.length co]) C :=
      ⟨_, _, _, _, _, _, rfl, own_sl (own_below H1.out.1.n hbb), own_sl (own_below H1.out.1.g hbb), own_sl (own_below H1.out.1.o hbb), by omega, by omega, by omega⟩
    have hgs := own_sl (own_below H1.out.1.g hbb)
    have hbw := H1.out.2.trans (hbb.mono H1.out.2.size)
    rw [← hB] at hk
    rw [← hB]
    clear hbb hB H1
    revert hV hgs hbw hk
    generalize w1.alloc (.cells #[.int .i64 C.inp, .slice sn C.next.length cn, .slice sg C.gates.length cg, .slice so C.outs.length co] 44) = W1
    intro hk hV hgs hbw
    have HC : Hid (∀ W, Below W1.heap.size W1 W → CirV W (.agg #[.int .i64 C.inp, .slice sn C.next.length cn, .slice sg C.gates.length cg, .slice so C.outs.length co]) C ∧ Sl W sg (gcells C.gates) ∧ (∀ o, W.cell? ⟨B, o, none⟩ = #[Value.int .i64 C.inp, .slice sn C.next.length cn, .slice sg C.gates.length cg, .slice so C.outs.length co][o]?) ∧ Below w.heap.size w W) := fun W hW => ⟨hV.mono hW, hgs.mono hW, (blk_all (blk_below hW (blk_lt hk) hk)).1, hbw.trans (hW.mono hbw.size)⟩
    clear hV hgs hbw hk
    have cb := (HC.out _ (Below.refl _ _)).2.2.1
    obtain ⟨A, hA⟩ : ∃ A, A = cbR C i := ⟨_, rfl⟩
    have HAA := Lib.hid hA
    clear hA
    by_cases hok : tsOk C i
    · have HT : Hid (decide (tsOk C i) = true) := decide_eq_true hok
      have hvB := hok.1
      have hval := C.validB_iff.1 hvB
      obtain ⟨q1, q2, q3, q4, q5⟩ := id hval.lim
      obtain ⟨n1, n2⟩ := asgN_le2 hval
      obtain ⟨ni, hni⟩ : ∃ ni : Nat, C.inp = ni := ⟨C.inp.toNat, by omega⟩
      obtain ⟨N, hN⟩ : ∃ N, N = asgN C := ⟨_, rfl⟩
      rw [← hN] at n1 n2
      have n4 : ni ≤ 4 := by omega
      have hi0 := hok.2
      have hwp : wrap64 (2 ^ (ni + C.next.length)) = (N : Int) := by rw [wrap_pow (by omega), hN]; unfold asgN; rw [hni]; simp
      have hto : ((ni : Int) + (C.next.length : Int)).toNat = ni + C.next.length := by omega
      obtain ⟨d, hd⟩ : ∃ d, d = bdR C i := ⟨_, rfl⟩
      have hdr : 0 ≤ d.root ∧ d.root ≤ 200 := by rw [hd]; exact bdR_root C i
      obtain ⟨hdr1, hdr2⟩ := hdr
      have hany : A = (List.range N).any (litF C i) := by rw [HAA.out, hN]; unfold cbR; rw [decide_eq_true hok, Bool.true_and]
      have hroot : (d.root != 0) = A := by
        rw [Bool.eq_iff_iff, bne_iff_ne, hd, bdR_yes hok]
        have h1 := bdK_root (litF C i) (n := C.inp.toNat + C.next.length) (by omega)
        rw [Ne, h1, HAA.out]
        unfold cbR
        rw [decide_eq_true hok, Bool.true_and, List.any_eq_true]
        unfold asgN
        constructor
        · intro h
          refine Decidable.byContradiction fun hn => h fun y hy => ?_
          cases hf : litF C i y
          · rfl
          · exact absurd ⟨y, List.mem_range.2 hy, hf⟩ hn
        · rintro ⟨y, hy, hf⟩ h
          rw [h y (List.mem_range.1 hy)] at hf; cases hf
      have HJ := Lib.hid (And.intro hd (And.intro hany hroot))
      clear hd hany hroot
      have HX := Lib.hid (And.intro hval (And.intro hni (And.intro hN (And.intro hok (And.intro hvB hi0)))))
      rw [hni] at HC cb ⊢
      clear hok hval hni hN hvB hi0 l1 l2 q1 q2
      cases A
      all_goals
        go_upto_region 7 with (first
          | (go_at_call 53; ((with_reducible refine (CanBeTrue_i _ C i _ (HC.out _ (Below.refl _ _)).1).mono ?_); rintro e w2 ⟨rfl, hq⟩; rw [← HAA.out]; have H2 := Lib.hid hq; clear hq cb; have cb := (HC.out _ H2.out).2.2.1))
          | (go_at_call 52; ((with_reducible refine (CanBeTrue_s _ C i _ (HC.out _ H2.out).1).mono ?_); rintro e w3 ⟨rfl, hq⟩; rw [← HAA.out]; have H4 := Lib.hid (H2.out.trans (hq.mono H2.out.size)); clear hq cb; have cb := (HC.out _ H4.out).2.2.1)))
      all_goals
        go_upto_region 11 with (first | (go_at_call 36; ((with_reducible refine (litExists_any _ C _ _ (HC.out _ H4.out).1 ⟨by omega, by omega⟩).mono ?_); rintro e w5 ⟨rfl, hq⟩; rw [HT.out]; have H5 := Lib.hid (H4.out.trans (hq.mono H4.out.size)); clear hq cb; have cb := (HC.out _ H5.out).2.2.1)))
        clear cb
        go_loopw [6, 7] (fun v6 v7 wr => ∃ k : Nat, k ≤ N ∧ v7 = .int .i64 k ∧ v6 = .bool ((List.range k).any (litF C i)) ∧ Below W1.heap.size W1 wr) (fun _ v7 _ => N - (intOf v7).toNat)
        case atStart => exact ⟨0, Nat.zero_le _, rfl, rfl, H5.out⟩
        case round =>
          obtain ⟨k, hk, rfl, rfl, hbl⟩ := hrel
          have cb := (HC.out _ hbl).2.2.1
          have HR := Lib.hid hbl
          clear hbl
          obtain ⟨S, hS⟩ : ∃ S, S = (List.range k).any (litF C i) := ⟨_, rfl⟩
          have hS2 := any_succ (litF C i) k
          rw [← hS] at hS2 ⊢
          have HS := Lib.hid (And.intro hS hS2)
          clear hS hS2
          by_cases hlt : k < N
          · have k1000 : (k : Int) ≤ 1000 := Int.ofNat_le.2 (show k ≤ 1000 from Nat.le_trans (Nat.le_of_lt hlt) (Nat.le_trans n2 (by decide)))
            cases S
            · go_wp2_with (go_at_call 37; ((refine (litValueL_any C sn sg so cn cg co ni HX.out.2.1 i (k : Int) _ (by rw [HX.out.2.1]; exact (HC.out _ HR.out).1) (HC.out _ HR.out).2.1 HX.out.1 HX.out.2.2.2.2.2.1 (by have := HX.out.2.2.2.2.2; unfold litP at this; omega) (Int.natCast_nonneg k) k1000).mono ?_); rintro e w6 ⟨rfl, hq⟩; rw [show litB (evalV C (k : Int) (-1) false) i = litF C i k from rfl]; have H6 := Lib.hid (HR.out.trans (hq.mono HR.out.size)); clear hq cb))
              go_roundw
              case rel => exact ⟨k + 1, by omega, by go_num, by rw [HS.out.2]; rfl, H6.out⟩
              case measure => simp [intOf]; omega
            · go_wp2_with fail
              go_roundw
              case rel => exact ⟨k + 1, by omega, by go_num, by rw [HS.out.2]; rfl, HR.out⟩
              case measure => simp [intOf]; omega
          · obtain rfl : k = N := Nat.le_antisymm hk (Nat.le_of_not_lt hlt)
            have hSA := HS.out.1.trans HJ.out.2.1.symm
            subst hSA
            have hfd : ∀ w' a b, (Instr.field 25 (.agg #[a, b]) 1).run Try.prog w' = .ok b w' := fun w' a b => by kernel_rfl
            have hdn := HJ.out.2.2
            go_wp2_with (go_at_call 28; ((with_reducible refine (BuildBdd_i _ C i _ (HC.out _ HR.out).1 ⟨by omega, by omega⟩).mono ?_); rintro e w7 ⟨s7, c7, rfl, -, hq⟩; rw [← HJ.out.1]; have H7 := Lib.hid (HR.out.trans (hq.mono HR.out.size)); clear hq))
            go_ret
            exact ⟨rfl, (HC.out _ H7.out).2.2.2⟩
    · have HT : Hid (decide (tsOk C i) = false) := decide_eq_false hok
      have hA0 : A = false := HAA.out.trans (cbR_no hok)
      clear hok
      subst hA0
      go_wp2_with (first
        | (go_at_call 53; ((with_reducible refine (CanBeTrue_i _ C i _ (HC.out _ (Below.refl _ _)).1).mono ?_); rintro e w2 ⟨rfl, hq⟩; rw [← HAA.out]; have H2 := Lib.hid hq; clear hq cb; have cb := (HC.out _ H2.out).2.2.1))
        | (go_at_call 52; ((with_reducible refine (CanBeTrue_s _ C i _ (HC.out _ H2.out).1).mono ?_); rintro e w3 ⟨rfl, hq⟩; rw [← HAA.out]; have H4 := Lib.hid (H2.out.trans (hq.mono H2.out.size)); clear hq cb; have cb := (HC.out _ H4.out).2.2.1))
        | (go_at_call 36; ((with_reducible refine (litExists_any _ C _ _ (HC.out _ H4.out).1 ⟨by omega, by omega⟩).mono ?_); rintro e w5 ⟨rfl, hq⟩; rw [HT.out]; have H5 := Lib.hid (H4.out.trans (hq.mono H4.out.size)); clear hq cb; have cb := (HC.out _ H5.out).2.2.1))
        | (go_at_call 21; ((with_reducible refine (alive_any _).mono ?_); rintro e w7 ⟨rfl, hq⟩; have HZ := Lib.hid (H5.out.trans (hq.mono H5.out.size)); clear hq)))
      go_ret
      exact ⟨rfl, (HC.out _ HZ.out).2.2.2⟩
  · clear hs hr
    go_enter Try.func14, Try.ntmps14
    go_wp2
    go_ret
    exact ⟨rfl, Below.refl _ _⟩

end Go.Proofs.Ytddmgphlhfilnaa
