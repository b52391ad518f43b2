import Derived.Test.YtaboipnigeaopaaJB
import Derived.Test.YtaboipnigeaopaaJE
import Derived.Test.YtaboipnigeaopaaS7
import Derived.Test.YtaboipnigeaopaaS4
namespace Go.Proofs.Ytaboipnigeaopaa
set_option linter.unusedVariables false
set_option linter.unusedSimpArgs false
open Go.RowKit

/-! The law FnStateClasses. -/

theorem cyc_eq (c : Cir) (s x : Int) (ni : Nat) (li : c.inp = ni) : cycV c s x = valsV (-1) false (stuckB (-1) false (false :: (bitsV x ni ++ bitsV s c.next.length))) c.gates := by
  unfold cycV stuckB
  rw [li, Int.toNat_natCast]
  rfl
theorem own_cap {w : World} {base : Nat} {e : TypeId} {size : Nat} {s : Option Addr} {n c : Nat} {xs : List Value} (h : w.ownsRow base e size (.slice s n c) n xs) : n ≤ c := by
  rcases h.2 with ⟨e, h0⟩ | ⟨g, cap, cur, e, _, _, hn, _⟩
  · simp only [Value.slice.injEq] at e; omega
  · simp only [Value.slice.injEq] at e; omega
theorem Sl.takeI {w : World} {s : Option Addr} {xs : List Int} (h : Sl w s (ints xs)) (k : Nat) : Sl w s (ints (xs.take k)) := by
  rcases h with h | ⟨b, off, rfl, hz⟩
  · left
    have : xs = [] := by simpa [ints] using h
    subst this; simp [ints]
  · refine .inr ⟨b, off, rfl, fun j v hv => hz j v ?_⟩
    simp only [ints, List.getElem?_map, List.getElem?_take] at hv ⊢
    split at hv
    · exact hv
    · simp at hv

/-- What stays while the law looks at the states. -/
structure RcW (C : Cir) (ni : Nat) (sn sg so : Option Addr) (cn cg co B lb lo : Nat) (Ls : List Int) (W : World) : Prop where
  cv : CirV W (.agg #[.int .i64 ni, .slice sn C.next.length cn, .slice sg C.gates.length cg, .slice so C.outs.length co]) C
  an : Sl W sn (ints C.next)
  ag : Sl W sg (gcells C.gates)
  ao : Sl W so (ints C.outs)
  cb : ∀ o, W.cell? ⟨B, o, none⟩ = #[Value.int .i64 ni, .slice sn C.next.length cn, .slice sg C.gates.length cg, .slice so C.outs.length co][o]?
  sl : Sl W (some ⟨lb, lo, none⟩) (ints Ls)

theorem RcW.lc {C : Cir} {ni : Nat} {sn sg so : Option Addr} {cn cg co B lb lo : Nat} {Ls : List Int} {W : World} (h : RcW C ni sn sg so cn cg co B lb lo Ls W) {j : Nat} {s : Int} (hj : Ls[j]? = some s) : W.cell? ⟨lb, lo + j, none⟩ = some (.int .i64 s) := by
  obtain ⟨b, off, e, _, z⟩ := h.sl.int (Below.refl _ _) hj
  simp only [Option.some.injEq, Addr.mk.injEq] at e
  obtain ⟨rfl, rfl, _⟩ := e
  exact z

theorem ordt_es {P : Program} {ops : Array Oper} {Q : Exit → Act → World → Prop} {S : World → Prop} {i : Nat} {r : OT} {o : Oper} {a : Act} {w : World} (ho : ops[i]? = some o) (hw : Region.wanted o (yielded ops a.tmps) = false) (hS : S w)
    (h : wpT P ops Q S r (a.put o.dst undef) w) : wpT P ops Q S (.e i r) a w := by
  show wpOp _ _ _ _ _ _ _
  unfold wpOp
  simp only [ho, hw]
  exact ⟨hS, h⟩
set_option maxHeartbeats 800000 in
theorem DrawStateClasses_any (s : Option Addr) (cap : Nat) (xs : List Int) (w : World) (hs : Sl w s (u8s xs)) (hl : xs.length ≤ 1048576) (hcap : xs.length ≤ cap) (hcap2 : cap ≤ 9223372036854775807) (hr : ∀ x ∈ xs, 0 ≤ x ∧ x ≤ 255) :
    Calls Try.prog 13 #[.slice s xs.length cap] w (DrawnC w) := by
  obtain ⟨W0, hW0⟩ : ∃ W0, W0 = w.alloc (.cells #[.int .i64 0, .slice none 0 0, .slice none 0 0, .slice none 0 0] 26) := ⟨_, rfl⟩
  have hz : W0.heap.size = w.heap.size + 1 := by rw [hW0]; simp
  have hb0 : Below w.heap.size w W0 := by rw [hW0]; exact below_alloc _ _
  have hk0 : W0.heap[w.heap.size]? = some (.cells #[.int .i64 0, .slice none 0 0, .slice none 0 0, .slice none 0 0] 26 (0, 0)) := by rw [hW0]; exact blk_new _ _
  have HH := Lib.hid (l20Open_any s cap xs W0 (hs.mono hb0) hl hcap hcap2 hr)
  have HW := Lib.hid (And.intro hW0 (And.intro hz (And.intro hb0 hk0)))
  clear hs hr hW0 hz hb0 hk0
  go_enter Try.func13, Try.ntmps13
  go_upto_region 1 with fail
  rw [← HW.out.1]
  go_wp2_with (first
    | (go_at_call 36; (with_reducible refine HH.out.mono ?_); rintro e w1 ⟨c, rfl, h1, h2, h3⟩; have H1 := Lib.hid (And.intro h1 (And.intro h2 h3)); clear h1 h2 h3)
    | (go_at_call 42; (with_reducible refine (l20Circuit_any _ _ _ _ _ _ _ H1.out.1 (by omega) (by omega) (by omega)).mono ?_); rintro e w2 ⟨C, vn, vg, vo, p', rfl, h1, h2, h3, h4, h6⟩; obtain ⟨sn, cn, rfl⟩ := own_shape h1.n; obtain ⟨sg, cg, rfl⟩ := own_shape h1.g; obtain ⟨so, co, rfl⟩ := own_shape h1.o; have h0 : w2.heap[w.heap.size]? = some (.cells #[.int .i64 0, .slice none 0 0, .slice none 0 0, .slice none 0 0] 26 (0, 0)) := (by have e1 := HW.out.2.1; have e2 := H1.out.2.2; rw [h6.block _ (by omega) (by omega)]; exact blk_below H1.out.2.1 (by omega) HW.out.2.2.2); obtain ⟨rc, rf⟩ := blk_all h0; have H2 := Lib.hid (And.intro h0 (And.intro h1 (And.intro h2 h6))); clear h0 h1 h2 h3 h4 h6))
  have hbl : Below w.heap.size w w2 := by
    have e1 := HW.out.2.1; have e2 := H1.out.2.2
    exact (HW.out.2.2.1.trans (H1.out.2.1.mono (by omega))).trans (H2.out.2.2.2.below (by omega) (by omega))
  have e1 := HW.out.2.1
  have e2 := H1.out.2.2
  have hZ : ((((w2.setCell ⟨w.heap.size, 0, none⟩ (.int .i64 C.inp)).setCell ⟨w.heap.size, 1, none⟩ (.slice sn C.next.length cn)).setCell ⟨w.heap.size, 2, none⟩ (.slice sg C.gates.length cg)).setCell ⟨w.heap.size, 3, none⟩ (.slice so C.outs.length co)).heap[w.heap.size]? = some (.cells #[.int .i64 C.inp, .slice sn C.next.length cn, .slice sg C.gates.length cg, .slice so C.outs.length co] 26 (0, 0)) := by
    simpa using blk_set (o := 3) (v := .slice so C.outs.length co) (blk_set (o := 2) (v := .slice sg C.gates.length cg) (blk_set (o := 1) (v := .slice sn C.next.length cn) (blk_set (o := 0) (v := .int .i64 C.inp) H2.out.1)))
  have hR := (H2.out.2.1).sets4 (r := w.heap.size) (by omega) (base := w.heap.size) (by omega) (a := .int .i64 C.inp) (b' := .slice sn C.next.length cn) (c' := .slice sg C.gates.length cg) (d := .slice so C.outs.length co)
  have hB := ((((hbl).setCell (p := ⟨w.heap.size, 0, none⟩) (by simp) (.int .i64 C.inp)).setCell (p := ⟨w.heap.size, 1, none⟩) (by simp) (.slice sn C.next.length cn)).setCell (p := ⟨w.heap.size, 2, none⟩) (by simp) (.slice sg C.gates.length cg)).setCell (p := ⟨w.heap.size, 3, none⟩) (by simp) (.slice so C.outs.length co)
  clear rc rf
  revert hZ hR hB
  generalize ((((w2.setCell ⟨w.heap.size, 0, none⟩ (.int .i64 C.inp)).setCell ⟨w.heap.size, 1, none⟩ (.slice sn C.next.length cn)).setCell ⟨w.heap.size, 2, none⟩ (.slice sg C.gates.length cg)).setCell ⟨w.heap.size, 3, none⟩ (.slice so C.outs.length co)) = WZ
  intro hZ hR hB
  have cr := (blk_all hZ).1
  exact bodyPost_ret (v := .agg #[.int .i64 C.inp, .slice sn C.next.length cn, .slice sg C.gates.length cg, .slice so C.outs.length co]) (by simp [results, Try.results13, go_sem, cr]) rfl ⟨C, _, _, _, rfl, hR, H2.out.2.2.1, hB⟩

set_option maxRecDepth 100000 in
set_option maxHeartbeats 6400000 in
theorem FnStateClasses_any (s : Option Addr) (cap : Nat) (xs : List Int) (w : World) (hs : Sl w s (u8s xs)) (hl : xs.length ≤ 9223372036854775807) (hcap : xs.length ≤ cap) (hcap2 : cap ≤ 9223372036854775807) (hr : ∀ x ∈ xs, 0 ≤ x ∧ x ≤ 255) :
    Calls Try.prog 4 #[.slice s xs.length cap] w fun e w' => e = .returned (.bool true) ∧ Below w.heap.size w w' := by
  by_cases hc : xs.length ≤ 1048576
  · have HD := Lib.hid (DrawStateClasses_any s cap xs w hs hc hcap hcap2 hr)
    clear hs hr
    go_enter Try.func4, Try.ntmps4
    go_upto_region 4 with (go_at_call 13; (with_reducible refine HD.out.mono ?_); rintro e w1 ⟨C, vn, vg, vo, rfl, h1, h2, h4⟩; obtain ⟨sn, cn, rfl⟩ := own_shape h1.n; obtain ⟨sg, cg, rfl⟩ := own_shape h1.g; obtain ⟨so, co, rfl⟩ := own_shape h1.o; have H1 := Lib.hid (And.intro h1 h4); obtain ⟨l1, l2, l3, l4, l5⟩ := h2; clear h1 h4)
    obtain ⟨B, hB⟩ : ∃ B, B = w1.heap.size := ⟨_, rfl⟩
    have hk := blk_new w1 (.cells #[.int .i64 C.inp, .slice sn C.next.length cn, .slice sg C.gates.length cg, .slice so C.outs.length co] 26)
    have hbb := below_alloc w1 (.cells #[.int .i64 C.inp, .slice sn C.next.length cn, .slice sg C.gates.length cg, .slice so C.outs.length co] 26)
    have hV : CirV (w1.alloc (.cells #[.int .i64 C.inp, .slice sn C.next.length cn, .slice sg C.gates.length cg, .slice so C.outs.length co] 26)) (.agg #[.int .i64 C.inp, .slice sn C.next.length cn, .slice sg C.gates.length cg, .slice so C.outs.length co]) C :=
      ⟨_, _, _, _, _, _, rfl, own_sl (own_below H1.out.1.n hbb), own_sl (own_below H1.out.1.g hbb), own_sl (own_below H1.out.1.o hbb), by omega, by omega, by omega⟩
    have hns := own_sl (own_below H1.out.1.n hbb)
    have hgs := own_sl (own_below H1.out.1.g hbb)
    have hos := own_sl (own_below H1.out.1.o hbb)
    have hbw := H1.out.2.trans (hbb.mono H1.out.2.size)
    rw [← hB] at hk
    rw [← hB]
    clear hbb hB H1
    revert hV hns hgs hos hbw hk
    generalize w1.alloc (.cells #[.int .i64 C.inp, .slice sn C.next.length cn, .slice sg C.gates.length cg, .slice so C.outs.length co] 26) = W1
    intro hk hV hns hgs hos hbw
    have HC1 : Hid (∀ W, Below W1.heap.size W1 W → CirV W (.agg #[.int .i64 C.inp, .slice sn C.next.length cn, .slice sg C.gates.length cg, .slice so C.outs.length co]) C ∧ Sl W sn (ints C.next) ∧ Sl W sg (gcells C.gates) ∧ Sl W so (ints C.outs) ∧ (∀ o, W.cell? ⟨B, o, none⟩ = #[Value.int .i64 C.inp, .slice sn C.next.length cn, .slice sg C.gates.length cg, .slice so C.outs.length co][o]?)) := fun W hW => ⟨hV.mono hW, hns.mono hW, hgs.mono hW, hos.mono hW, (blk_all (blk_below hW (blk_lt hk) hk)).1⟩
    have HW := Lib.hid hbw
    clear hV hns hgs hos hbw hk
    have cb := (HC1.out _ (Below.refl _ _)).2.2.2.2
    obtain ⟨Ls, hLs⟩ : ∃ Ls, Ls = clsR C := ⟨_, rfl⟩
    have hLl : Ls.length ≤ 1000000 := by rw [hLs]; exact clsR_len _
    have HLs := Lib.hid hLs
    cases hv : C.validB
    · have HN : Hid (Ls.length = 0) := by show _ = _; rw [hLs, clsR_no hv]; rfl
      have HV := Lib.hid hv
      clear hv hLs
      go_upto_region 8 with (first
        | (go_at_call 14; ((with_reducible refine (StateClasses_i _ _ _ (HC1.out _ (Below.refl _ _)).1).mono ?_); rintro e w2 ⟨s1, c1, rfl, h1, hq⟩; rw [← HLs.out] at h1 ⊢; have H2 := Lib.hid (And.intro (own_sl h1) hq); clear h1 hq cb; have cb := (HC1.out _ H2.out.2).2.2.2.2))
        | (go_at_call 16; ((with_reducible refine (StateClasses_s _ _ _ (HC1.out _ H2.out.2).1).mono ?_); rintro e w3 ⟨s2, c2, rfl, h1, hq⟩; rw [← HLs.out] at h1 ⊢; have H3 := Lib.hid (And.intro (H2.out.1.mono hq) (And.intro h1 (H2.out.2.trans (hq.mono H2.out.2.size)))); clear h1 hq cb; have cb := (HC1.out _ H3.out.2.2).2.2.2.2))
        | (go_at_call 15; ((with_reducible refine (sameInts_any _ _ _ _ Ls Ls _ H3.out.1 H3.out.2.1 hLl hLl rfl).mono ?_); rintro e w4 ⟨rfl, hd⟩; have H4 := Lib.hid (H3.out.2.2.trans ((hd.below _).mono H3.out.2.2.size)); clear hd cb; have cb := (HC1.out _ H4.out).2.2.2.2))
        | (go_at_call 17; ((with_reducible refine (CircuitValid_s _ C _ (HC1.out _ H4.out).1).mono ?_); rintro e w5 ⟨rfl, hq⟩; rw [HV.out]; have H5 := Lib.hid (H4.out.trans (hq.mono H4.out.size)); clear hq cb)))
      have hn0 := HN.out
      go_wp2_with (go_at_call 12; ((with_reducible refine (alive_any _).mono ?_); rintro e w7 ⟨rfl, hq⟩; have HA := Lib.hid (H5.out.trans (hq.mono H5.out.size)); clear hq))
      go_ret
      exact ⟨rfl, HW.out.trans (HA.out.mono HW.out.size)⟩
    · have hval := C.validB_iff.1 hv
      obtain ⟨q1, q2, q3, q4, q5⟩ := id hval.lim
      obtain ⟨ni, hni⟩ : ∃ ni : Nat, C.inp = ni := ⟨C.inp.toNat, by omega⟩
      have n4 : ni ≤ 4 := by omega
      obtain ⟨M, hM⟩ : ∃ M : Nat, M = 2 ^ ni := ⟨_, rfl⟩
      obtain ⟨N, hN⟩ : ∃ N : Nat, N = 2 ^ C.next.length := ⟨_, rfl⟩
      have M16 : M ≤ 16 := by rw [hM]; exact Nat.le_trans (Nat.pow_le_pow_right (by decide) n4) (by decide)
      have N8 : N ≤ 8 := by rw [hN]; exact Nat.le_trans (Nat.pow_le_pow_right (by decide) q3) (by decide)
      have N0 : 0 < N := by rw [hN]; exact Nat.pow_pos (by decide)
      have hCP : ClassP C M N Ls := by rw [hLs, clsR_yes hv hni, ← hM, ← hN]; exact iterK_spec N0 hN
      have hLN : Ls.length = N := hCP.len
      have hwp : wrap64 (2 ^ ni) = (M : Int) := by rw [wrap_pow (by omega), hM]; simp
      have hwq : wrap64 (2 ^ C.next.length) = (N : Int) := by rw [wrap_pow (by omega), hN]; simp
      have HX := Lib.hid (And.intro hval (And.intro hni (And.intro hCP (And.intro hN (And.intro hLN hv)))))
      have HWP := Lib.hid (And.intro hwp hwq)
      rw [hni] at HC1 cb ⊢
      have HNX : Hid (∀ s i : Nat, ∃ p : Nat, nextN C (s : Int) (i : Int) = (p : Int) ∧ p < N ∧ ∃ x, Ls[p]? = some x ∧ x = Ls.getD (nextN C (s : Int) (i : Int)).toNat 0) := nextN_nat C N hN Ls hLN
      have hL8 : Ls.length ≤ 8 := by rw [hLN]; exact N8
      clear hv hLs hval q1 hni hM hN hCP l1 l2 hwp hwq hLN hLl
      go_upto_region 9 with (first
        | (go_at_call 14; ((with_reducible refine (StateClasses_i _ _ _ (HC1.out _ (Below.refl _ _)).1).mono ?_); rintro e w2 ⟨s1, c1, rfl, h1, hq⟩; rw [← HLs.out] at h1 ⊢; have hcap := own_cap h1; have H2 := Lib.hid (And.intro (own_sl h1) hq); clear h1 hq cb; have cb := (HC1.out _ H2.out.2).2.2.2.2))
        | (go_at_call 16; ((with_reducible refine (StateClasses_s _ _ _ (HC1.out _ H2.out.2).1).mono ?_); rintro e w3 ⟨s2, c2, rfl, h1, hq⟩; rw [← HLs.out] at h1 ⊢; have H3 := Lib.hid (And.intro (H2.out.1.mono hq) (And.intro h1 (H2.out.2.trans (hq.mono H2.out.2.size)))); clear h1 hq cb; have cb := (HC1.out _ H3.out.2.2).2.2.2.2))
        | (go_at_call 15; ((with_reducible refine (sameInts_any _ _ _ _ Ls Ls _ H3.out.1 H3.out.2.1 (by omega) (by omega) rfl).mono ?_); rintro e w4 ⟨rfl, hd⟩; have H4 := Lib.hid (And.intro (H3.out.1.mono (hd.below _)) (H3.out.2.2.trans ((hd.below _).mono H3.out.2.2.size))); clear hd cb; have cb := (HC1.out _ H4.out.2).2.2.2.2))
        | (go_at_call 17; ((with_reducible refine (CircuitValid_s _ C _ (HC1.out _ H4.out.2).1).mono ?_); rintro e w5 ⟨rfl, hq⟩; rw [HX.out.2.2.2.2.2]; have H5 := Lib.hid (And.intro (H4.out.1.mono hq) (H4.out.2.trans (hq.mono H4.out.2.size))); clear hq cb)))
      have hLN := HX.out.2.2.2.2.1
      obtain ⟨z0, hz0⟩ := get_of_lt (l := Ls) (k := 0) (by omega)
      obtain ⟨lb, lo, rfl, -, -⟩ := H5.out.1.int (Below.refl _ _) hz0
      clear hz0
      rw [hLN] at hcap ⊢
      have HC : Hid (∀ W, Below w5.heap.size w5 W → RcW C ni sn sg so cn cg co B lb lo Ls W) := fun W hW => by
        obtain ⟨a1, a2, a3, a4, a5⟩ := HC1.out W (H5.out.2.trans (hW.mono H5.out.2.size))
        exact ⟨a1, a2, a3, a4, a5, H5.out.1.mono hW⟩
      go_wp2_with fail
      go_loopw [5] (fun v5 wr => ∃ k : Nat, k ≤ N ∧ v5 = .int .i64 k ∧ Below w5.heap.size w5 wr) (fun v5 _ => N - (intOf v5).toNat)
      case atStart => exact ⟨0, Nat.zero_le _, rfl, Below.refl _ _⟩
      case round =>
        obtain ⟨k, hk, rfl, hbl⟩ := hrel
        have HR := Lib.hid hbl
        clear hbl
        by_cases hlt : k < N
        · obtain ⟨f, hf⟩ : ∃ f : Nat, Ls.getD k 0 = (f : Int) := ⟨(Ls.getD k 0).toNat, by have := (HX.out.2.2.1.le k hlt).1; omega⟩
          have hfk : f ≤ k := by have := (HX.out.2.2.1.le k hlt).2; omega
          have hfN : f < N := by omega
          have hrep := HX.out.2.2.1.rep k hlt
          rw [hf, Int.toNat_natCast] at hrep
          have gk : Ls[k]? = some (f : Int) := by
            obtain ⟨y, hy⟩ := get_of_lt (show k < Ls.length by omega)
            rw [hy]; rw [List.getD_eq_getElem?_getD, hy] at hf; simpa using hf
          have gf : Ls[f]? = some (f : Int) := by
            obtain ⟨y, hy⟩ := get_of_lt (show f < Ls.length by omega)
            rw [hy]; rw [List.getD_eq_getElem?_getD, hy] at hrep; simpa using hrep
          have HK := Lib.hid (And.intro gk (And.intro gf hf))
          clear gk gf hf hrep
          have hS : Hid (∀ W, Below w5.heap.size w5 W → W.cell? ⟨lb, lo + k, none⟩ = some (.int .i64 f) ∧ W.cell? ⟨lb, lo + f, none⟩ = some (.int .i64 f)) := fun W hW => ⟨(HC.out _ hW).lc HK.out.1, (HC.out _ hW).lc HK.out.2.1⟩
          have hgt : decide (k < f) = false := by simp; omega
          go_upto_region 12 with fail
          refine wp_region_T (fun w' => w'.cell? ⟨lb, lo + k, none⟩ = some (.int .i64 f) ∧ w'.cell? ⟨lb, lo + f, none⟩ = some (.int .i64 f)) (.q 0 (.q 1 (.q 2 (.q 3 (.q 4 (.q 5 (.q 6 (.q 7 (.q 8 (.q 9 (.q 10 (.q 11 (.q 12 (.q 13 (.q 14 (.q 15 (.q 16 (.q 17 (.q 18 (.q 19 .nil)))))))))))))))))))) (by kernel_rfl) (by kernel_rfl) (by kernel_rfl) (hS.out _ HR.out.drew) ?_
          repeat (first | (refine ordt_s (o := ?_) ?_ ?_ ?_; rotate_left 1; (focus ((simp only [List.getElem?_toArray, List.getElem?_cons_succ, List.getElem?_cons_zero]) <;> rfl)); (focus rfl); simp only [Act.put, List.setIfInBounds_toArray, List.set_cons_zero, List.set_cons_succ]) | (refine ordt_q (o := ?_) (v := ?_) ?_ ?_ ?_ ?_; rotate_left 2; (focus ((simp only [List.getElem?_toArray, List.getElem?_cons_succ, List.getElem?_cons_zero]) <;> rfl)); (focus rfl); (focus (intro w' hS; (try dsimp only at hS); go_split_ands; go_simp; (try (with_reducible rfl)))); simp only [Act.put, List.setIfInBounds_toArray, List.set_cons_zero, List.set_cons_succ]))
          refine ordt_nil ?_
          have hbl : Below w5.heap.size w5 wr.drew := HR.out.drew
          revert hbl
          generalize wr.drew = wq
          intro hbl
          have HQ := Lib.hid hbl
          clear hbl HR hgt
          go_wp2_with fail
          go_loopw [6] (fun v6 wr => ∃ j : Nat, j ≤ k ∧ v6 = .int .i64 j ∧ Below w5.heap.size w5 wr) (fun v6 _ => k - (intOf v6).toNat)
          case atStart => exact ⟨0, Nat.zero_le _, rfl, HQ.out⟩
          case round =>
            obtain ⟨j, hj, rfl, hbl⟩ := hrel
            have HR := Lib.hid hbl
            clear hbl
            by_cases hltj : j < k
            · have hjN : j < N := by omega
              obtain ⟨g, hg⟩ := get_of_lt (show j < Ls.length by omega)
              have gg : Ls.getD j 0 = g := by rw [List.getD_eq_getElem?_getD, hg]; rfl
              have HJ := Lib.hid (And.intro hg gg)
              clear hg gg
              go_wp2_with fail
              go_loopw [8, 7] (fun v8 v7 wr => ∃ (x : Nat) (b : Bool), x ≤ M ∧ v8 = .int .i64 x ∧ v7 = .bool b ∧ (b = true ↔ ∀ y : Nat, y < x → outN C (k : Int) (y : Int) = outN C (j : Int) (y : Int) ∧ Ls.getD (nextN C (k : Int) (y : Int)).toNat 0 = Ls.getD (nextN C (j : Int) (y : Int)).toNat 0) ∧ Below w5.heap.size w5 wr) (fun v8 _ _ => M - (intOf v8).toNat)
              case atStart => exact ⟨0, true, Nat.zero_le _, rfl, rfl, by simp, HR.out⟩
              case round =>
                clear HR
                obtain ⟨x, b, hx, rfl, rfl, hb, hbl⟩ := hrel
                have cb := (HC.out _ hbl).cb
                have HR := Lib.hid hbl
                have HBB := Lib.hid hb
                clear hbl hb
                by_cases hltx : x < M
                · have hx16 : x ≤ 16 := by omega
                  have hwp := HWP.out.1
                  go_upto_region 21 with fail
                  clear cb hwp
                  obtain ⟨O1, hO1⟩ : ∃ O, O = C.outs.map (litB (cycV C (k : Int) (x : Int))) := ⟨_, rfl⟩
                  obtain ⟨N1, hN1⟩ : ∃ O, O = C.next.map (litB (cycV C (k : Int) (x : Int))) := ⟨_, rfl⟩
                  obtain ⟨O2, hO2⟩ : ∃ O, O = C.outs.map (litB (cycV C (j : Int) (x : Int))) := ⟨_, rfl⟩
                  obtain ⟨N2, hN2⟩ : ∃ O, O = C.next.map (litB (cycV C (j : Int) (x : Int))) := ⟨_, rfl⟩
                  have lO1 : O1.length = C.outs.length := by rw [hO1]; simp
                  have lO2 : O2.length = C.outs.length := by rw [hO2]; simp
                  have lN1 : N1.length = C.next.length := by rw [hN1]; simp
                  have lN2 : N2.length = C.next.length := by rw [hN2]; simp
                  obtain ⟨p1, e1, p1N, y1, hy1, g1⟩ := HNX.out k x
                  obtain ⟨p2, e2, p2N, y2, hy2, g2⟩ := HNX.out j x
                  have n1 : numB N1 = (p1 : Int) := by rw [← e1, hN1]; rfl
                  have n2 : numB N2 = (p2 : Int) := by rw [← e2, hN2]; rfl
                  have ho : outN C (k : Int) (x : Int) = outN C (j : Int) (x : Int) ↔ O1 = O2 := by rw [outN_eq rfl, hO1, hO2]
                  have HP := Lib.hid (And.intro lO1 (And.intro lO2 (And.intro lN1 (And.intro lN2 (And.intro n1 (And.intro n2 (And.intro hy1 (And.intro hy2 (And.intro g1 (And.intro g2 ho))))))))))
                  have HO := Lib.hid (And.intro hO1 (And.intro hN1 (And.intro hO2 hN2)))
                  clear hO1 hN1 hO2 hN2 lO1 lO2 lN1 lN2 e1 e2 hy1 hy2 g1 g2 n1 n2 ho
                  have HST1 : Hid (∀ W sa ca sb cb', Below w5.heap.size w5 W → Sl W sa (bools (bitsV (k : Int) C.next.length)) → Sl W sb (bools (bitsV (x : Int) ni)) → Calls Try.prog 18 #[.agg #[.int .i64 ni, .slice sn C.next.length cn, .slice sg C.gates.length cg, .slice so C.outs.length co], .slice sa C.next.length ca, .slice sb ni cb'] W fun e w' => ∃ t1 d1 t2 d2, e = .returned (.agg #[.slice t1 C.outs.length d1, .slice t2 C.next.length d2]) ∧ Sl w' t1 (bools O1) ∧ Sl w' t2 (bools N1) ∧ Below W.heap.size W w') := fun W sa ca sb cb' hW h1 h2 => by
                    rw [HO.out.1, HO.out.2.1]
                    exact Step_any C sn sg so sa sb cn cg co ca cb' _ _ W ni HX.out.2.1 (by rw [HX.out.2.1]; exact (HC.out _ hW).cv) (HC.out _ hW).an (HC.out _ hW).ag (HC.out _ hW).ao HX.out.1 h1 h2 (bitsV_length _ _) (bitsV_length _ _) (cycV C (k : Int) (x : Int)) (cyc_eq C (k : Int) (x : Int) ni HX.out.2.1) (by have h1 := cycV_length C (k : Int) (x : Int); have h2 := HX.out.2.1; have h3 := HX.out.1.lim.1; unfold Cir.vars; omega)
                  have HST2 : Hid (∀ W sa ca sb cb', Below w5.heap.size w5 W → Sl W sa (bools (bitsV (j : Int) C.next.length)) → Sl W sb (bools (bitsV (x : Int) ni)) → Calls Try.prog 18 #[.agg #[.int .i64 ni, .slice sn C.next.length cn, .slice sg C.gates.length cg, .slice so C.outs.length co], .slice sa C.next.length ca, .slice sb ni cb'] W fun e w' => ∃ t1 d1 t2 d2, e = .returned (.agg #[.slice t1 C.outs.length d1, .slice t2 C.next.length d2]) ∧ Sl w' t1 (bools O2) ∧ Sl w' t2 (bools N2) ∧ Below W.heap.size W w') := fun W sa ca sb cb' hW h1 h2 => by
                    rw [HO.out.2.2.1, HO.out.2.2.2]
                    exact Step_any C sn sg so sa sb cn cg co ca cb' _ _ W ni HX.out.2.1 (by rw [HX.out.2.1]; exact (HC.out _ hW).cv) (HC.out _ hW).an (HC.out _ hW).ag (HC.out _ hW).ao HX.out.1 h1 h2 (bitsV_length _ _) (bitsV_length _ _) (cycV C (j : Int) (x : Int)) (cyc_eq C (j : Int) (x : Int) ni HX.out.2.1) (by have h1 := cycV_length C (j : Int) (x : Int); have h2 := HX.out.2.1; have h3 := HX.out.1.lim.1; unfold Cir.vars; omega)
                  go_cut [9] from 70 to 80 (fun sD wx => ∃ b t1 d1 t2 d2, sD = .pointer (some ⟨b, 0, none⟩) ∧ wx.heap[b]? = some (.cells #[.slice t1 C.outs.length d1, .slice t2 C.next.length d2] 36 (0, 0)) ∧ Sl wx t1 (bools O1) ∧ Sl wx t2 (bools N1) ∧ Below wr.heap.size wr wx)
                  case first =>
                    refine wp_region_T (fun w' => ∀ o, w'.cell? ⟨B, o, none⟩ = #[Value.int .i64 ni, .slice sn C.next.length cn, .slice sg C.gates.length cg, .slice so C.outs.length co][o]?) (.q 0 (.q 1 (.q 2 (.q 3 (.q 4 (.q 6 (.q 7 (.q 8 (.two 5 (.two 9 (.two 10 (.e 11 (.e 12 .nil)) 11 (.e 10 (.e 12 .nil))) 11 (.e 9 (.e 10 (.e 12 .nil)))) 11 (.e 5 (.e 9 (.e 10 (.e 12 .nil))))))))))))) (by kernel_rfl) (by kernel_rfl) (by kernel_rfl) (HC.out _ HR.out.drew).cb ?_
                    have hbz : Below wr.heap.size wr wr.drew := (Below.refl _ _).drew
                    revert hbz
                    generalize wr.drew = w1_0
                    intro hbz
                    repeat (first | (refine ordt_s (o := ?_) ?_ ?_ ?_; rotate_left 1; (focus ((simp only [List.getElem?_toArray, List.getElem?_cons_succ, List.getElem?_cons_zero]) <;> rfl)); (focus rfl); simp only [Act.put, List.setIfInBounds_toArray, List.set_cons_zero, List.set_cons_succ]) | (refine ordt_q (o := ?_) (v := ?_) ?_ ?_ ?_ ?_; rotate_left 2; (focus ((simp only [List.getElem?_toArray, List.getElem?_cons_succ, List.getElem?_cons_zero]) <;> rfl)); (focus rfl); (focus (intro w' hS; (try dsimp only at hS); go_split_ands; go_simp; (try (with_reducible rfl)))); simp only [Act.put, List.setIfInBounds_toArray, List.set_cons_zero, List.set_cons_succ]))
                    refine ordt_two ?_ ?_
                    · (refine op_e (o := ?_) ?_ ?_ (fun K hK => ?_); rotate_left 1; (focus ((simp only [List.getElem?_toArray, List.getElem?_cons_succ, List.getElem?_cons_zero]) <;> rfl)); (focus rfl); go_simp)
                      refine (bitsL_any (k : Int) C.next.length _ (Int.natCast_nonneg _) (by omega) (by omega)).mono ?_
                      rintro e w1_1 ⟨sa, ca, rfl, h1, hq⟩
                      have hbz := hbz.trans (hq.mono hbz.size)
                      refine hK.out _ _ (HC.out _ (HR.out.trans (hbz.mono HR.out.size))).cb ?_
                      clear hK K hq
                      have HH := Lib.hid (And.intro hbz h1)
                      clear hbz h1
                      (try simp only [Act.put, List.setIfInBounds_toArray, List.set_cons_zero, List.set_cons_succ])
                      obtain ⟨hbz, h1⟩ := HH.out
                      clear HH
                      refine ordt_two ?_ ?_
                      · (refine op_e (o := ?_) ?_ ?_ (fun K hK => ?_); rotate_left 1; (focus ((simp only [List.getElem?_toArray, List.getElem?_cons_succ, List.getElem?_cons_zero]) <;> rfl)); (focus rfl); go_simp)
                        refine (bitsL_any (x : Int) ni _ (Int.natCast_nonneg _) (by omega) (by omega)).mono ?_
                        rintro e w1_2 ⟨sb, cb2, rfl, h2, hq⟩
                        have h1 := h1.mono hq
                        have hbz := hbz.trans (hq.mono hbz.size)
                        refine hK.out _ _ (HC.out _ (HR.out.trans (hbz.mono HR.out.size))).cb ?_
                        clear hK K hq
                        have HH := Lib.hid (And.intro hbz (And.intro h1 h2))
                        clear hbz h1 h2
                        (try simp only [Act.put, List.setIfInBounds_toArray, List.set_cons_zero, List.set_cons_succ])
                        obtain ⟨hbz, h1, h2⟩ := HH.out
                        clear HH
                        refine ordt_two ?_ ?_
                        · (refine op_e (o := ?_) ?_ ?_ (fun K hK => ?_); rotate_left 1; (focus ((simp only [List.getElem?_toArray, List.getElem?_cons_succ, List.getElem?_cons_zero]) <;> rfl)); (focus rfl); go_simp)
                          refine (HST1.out _ _ _ _ _ (HR.out.trans (hbz.mono HR.out.size)) h1 h2).mono ?_
                          rintro e w1_3 ⟨t1, d1, t2, d2, rfl, h3, h4, hq⟩
                          have hbz := hbz.trans (hq.mono hbz.size)
                          refine hK.out _ _ (HC.out _ (HR.out.trans (hbz.mono HR.out.size))).cb ?_
                          clear hK K hq
                          have HH := Lib.hid (And.intro hbz (And.intro h3 h4))
                          clear hbz h3 h4
                          (try simp only [Act.put, List.setIfInBounds_toArray, List.set_cons_zero, List.set_cons_succ])
                          obtain ⟨hbz, h3, h4⟩ := HH.out
                          clear HH
                          refine ordt_e ?_
                          (refine op_e (o := ?_) ?_ ?_ (fun K hK => ?_); rotate_left 1; (focus ((simp only [List.getElem?_toArray, List.getElem?_cons_succ, List.getElem?_cons_zero]) <;> rfl)); (focus rfl); go_simp)
                          obtain ⟨b, hbq⟩ : ∃ b, b = w1_3.heap.size := ⟨_, rfl⟩
                          have hbge : wr.heap.size ≤ b := by rw [hbq]; exact hbz.size
                          have hq := below_alloc w1_3 (.cells #[.slice none 0 0, .slice none 0 0] 36)
                          have hk0 := blk_new w1_3 (.cells #[.slice none 0 0, .slice none 0 0] 36)
                          rw [← hbq] at hk0
                          rw [← hbq]
                          clear hbq
                          revert hq hk0
                          generalize w1_3.alloc (.cells #[.slice none 0 0, .slice none 0 0] 36) = w1_4
                          intro hq hk0
                          have h3 := h3.mono hq
                          have h4 := h4.mono hq
                          have hbz := hbz.trans (hq.mono hbz.size)
                          refine hK.out _ _ (HC.out _ (HR.out.trans (hbz.mono HR.out.size))).cb ?_
                          clear hK K hq
                          have HH := Lib.hid (And.intro hbz (And.intro h3 (And.intro h4 hk0)))
                          clear hbz h3 h4 hk0
                          (try simp only [Act.put, List.setIfInBounds_toArray, List.set_cons_zero, List.set_cons_succ])
                          obtain ⟨hbz, h3, h4, hk0⟩ := HH.out
                          clear HH
                          obtain ⟨rc, rf⟩ := blk_all hk0
                          refine ordt_e ?_
                          (refine op_e (o := ?_) ?_ ?_ (fun K hK => ?_); rotate_left 1; (focus ((simp only [List.getElem?_toArray, List.getElem?_cons_succ, List.getElem?_cons_zero]) <;> rfl)); (focus rfl); go_simp)
                          have hU : Upd b w1_4 ((w1_4.setCell ⟨b, 0, none⟩ (.slice t1 C.outs.length d1)).setCell ⟨b, 1, none⟩ (.slice t2 C.next.length d2)) := (Upd.set _ _ _ _).trans (Upd.set _ _ _ _)
                          have hZ : ((w1_4.setCell ⟨b, 0, none⟩ (.slice t1 C.outs.length d1)).setCell ⟨b, 1, none⟩ (.slice t2 C.next.length d2)).heap[b]? = some (.cells #[.slice t1 C.outs.length d1, .slice t2 C.next.length d2] 36 (0, 0)) := by
                            simpa using blk_set (o := 1) (v := .slice t2 C.next.length d2) (blk_set (o := 0) (v := .slice t1 C.outs.length d1) hk0)
                          have hs1 := h3.updB hU hk0
                          have hs2 := h4.updB hU hk0
                          have hbw : Below wr.heap.size wr ((w1_4.setCell ⟨b, 0, none⟩ (.slice t1 C.outs.length d1)).setCell ⟨b, 1, none⟩ (.slice t2 C.next.length d2)) := (hbz.setCell (p := ⟨b, 0, none⟩) hbge _).setCell (p := ⟨b, 1, none⟩) hbge _
                          refine hK.out _ _ (HC.out _ (HR.out.trans (hbw.mono HR.out.size))).cb ?_
                          clear hK K
                          (try simp only [Act.put, List.setIfInBounds_toArray, List.set_cons_zero, List.set_cons_succ])
                          refine ordt_nil ?_
                          have HF := Lib.hid (And.intro hZ (And.intro hs1 (And.intro hs2 hbw)))
                          clear hZ hs1 hs2 hbw hU rc rf hk0 h3 h4 hbz
                          go_wp2_with fail
                          go_meet
                          exact ⟨b, t1, d1, t2, d2, rfl, HF.out⟩
                        · (refine op_e (o := ?_) ?_ ?_ (fun K hK => ?_); rotate_left 1; (focus ((simp only [List.getElem?_toArray, List.getElem?_cons_succ, List.getElem?_cons_zero]) <;> rfl)); (focus rfl); go_simp)
                          obtain ⟨b, hbq⟩ : ∃ b, b = w1_2.heap.size := ⟨_, rfl⟩
                          have hbge : wr.heap.size ≤ b := by rw [hbq]; exact hbz.size
                          have hq := below_alloc w1_2 (.cells #[.slice none 0 0, .slice none 0 0] 36)
                          have hk0 := blk_new w1_2 (.cells #[.slice none 0 0, .slice none 0 0] 36)
                          rw [← hbq] at hk0
                          rw [← hbq]
                          clear hbq
                          revert hq hk0
                          generalize w1_2.alloc (.cells #[.slice none 0 0, .slice none 0 0] 36) = w1_3
                          intro hq hk0
                          have h1 := h1.mono hq
                          have h2 := h2.mono hq
                          have hbz := hbz.trans (hq.mono hbz.size)
                          refine hK.out _ _ (HC.out _ (HR.out.trans (hbz.mono HR.out.size))).cb ?_
                          clear hK K hq
                          have HH := Lib.hid (And.intro hbz (And.intro h1 (And.intro h2 hk0)))
                          clear hbz h1 h2 hk0
                          (try simp only [Act.put, List.setIfInBounds_toArray, List.set_cons_zero, List.set_cons_succ])
                          obtain ⟨hbz, h1, h2, hk0⟩ := HH.out
                          clear HH
                          refine ordt_e ?_
                          (refine op_e (o := ?_) ?_ ?_ (fun K hK => ?_); rotate_left 1; (focus ((simp only [List.getElem?_toArray, List.getElem?_cons_succ, List.getElem?_cons_zero]) <;> rfl)); (focus rfl); go_simp)
                          refine (HST1.out _ _ _ _ _ (HR.out.trans (hbz.mono HR.out.size)) h1 h2).mono ?_
                          rintro e w1_4 ⟨t1, d1, t2, d2, rfl, h3, h4, hq⟩
                          have hk0 := blk_below hq (blk_lt hk0) hk0
                          have hbz := hbz.trans (hq.mono hbz.size)
                          refine hK.out _ _ (HC.out _ (HR.out.trans (hbz.mono HR.out.size))).cb ?_
                          clear hK K hq
                          have HH := Lib.hid (And.intro hbz (And.intro hk0 (And.intro h3 h4)))
                          clear hbz hk0 h3 h4
                          (try simp only [Act.put, List.setIfInBounds_toArray, List.set_cons_zero, List.set_cons_succ])
                          obtain ⟨hbz, hk0, h3, h4⟩ := HH.out
                          clear HH
                          obtain ⟨rc, rf⟩ := blk_all hk0
                          refine ordt_e ?_
                          (refine op_e (o := ?_) ?_ ?_ (fun K hK => ?_); rotate_left 1; (focus ((simp only [List.getElem?_toArray, List.getElem?_cons_succ, List.getElem?_cons_zero]) <;> rfl)); (focus rfl); go_simp)
                          have hU : Upd b w1_4 ((w1_4.setCell ⟨b, 0, none⟩ (.slice t1 C.outs.length d1)).setCell ⟨b, 1, none⟩ (.slice t2 C.next.length d2)) := (Upd.set _ _ _ _).trans (Upd.set _ _ _ _)
                          have hZ : ((w1_4.setCell ⟨b, 0, none⟩ (.slice t1 C.outs.length d1)).setCell ⟨b, 1, none⟩ (.slice t2 C.next.length d2)).heap[b]? = some (.cells #[.slice t1 C.outs.length d1, .slice t2 C.next.length d2] 36 (0, 0)) := by
                            simpa using blk_set (o := 1) (v := .slice t2 C.next.length d2) (blk_set (o := 0) (v := .slice t1 C.outs.length d1) hk0)
                          have hs1 := h3.updB hU hk0
                          have hs2 := h4.updB hU hk0
                          have hbw : Below wr.heap.size wr ((w1_4.setCell ⟨b, 0, none⟩ (.slice t1 C.outs.length d1)).setCell ⟨b, 1, none⟩ (.slice t2 C.next.length d2)) := (hbz.setCell (p := ⟨b, 0, none⟩) hbge _).setCell (p := ⟨b, 1, none⟩) hbge _
                          refine hK.out _ _ (HC.out _ (HR.out.trans (hbw.mono HR.out.size))).cb ?_
                          clear hK K
                          (try simp only [Act.put, List.setIfInBounds_toArray, List.set_cons_zero, List.set_cons_succ])
                          refine ordt_nil ?_
                          have HF := Lib.hid (And.intro hZ (And.intro hs1 (And.intro hs2 hbw)))
                          clear hZ hs1 hs2 hbw hU rc rf hk0 h3 h4 hbz
                          go_wp2_with fail
                          go_meet
                          exact ⟨b, t1, d1, t2, d2, rfl, HF.out⟩
                      · (refine op_e (o := ?_) ?_ ?_ (fun K hK => ?_); rotate_left 1; (focus ((simp only [List.getElem?_toArray, List.getElem?_cons_succ, List.getElem?_cons_zero]) <;> rfl)); (focus rfl); go_simp)
                        obtain ⟨b, hbq⟩ : ∃ b, b = w1_1.heap.size := ⟨_, rfl⟩
                        have hbge : wr.heap.size ≤ b := by rw [hbq]; exact hbz.size
                        have hq := below_alloc w1_1 (.cells #[.slice none 0 0, .slice none 0 0] 36)
                        have hk0 := blk_new w1_1 (.cells #[.slice none 0 0, .slice none 0 0] 36)
                        rw [← hbq] at hk0
                        rw [← hbq]
                        clear hbq
                        revert hq hk0
                        generalize w1_1.alloc (.cells #[.slice none 0 0, .slice none 0 0] 36) = w1_2
                        intro hq hk0
                        have h1 := h1.mono hq
                        have hbz := hbz.trans (hq.mono hbz.size)
                        refine hK.out _ _ (HC.out _ (HR.out.trans (hbz.mono HR.out.size))).cb ?_
                        clear hK K hq
                        have HH := Lib.hid (And.intro hbz (And.intro h1 hk0))
                        clear hbz h1 hk0
                        (try simp only [Act.put, List.setIfInBounds_toArray, List.set_cons_zero, List.set_cons_succ])
                        obtain ⟨hbz, h1, hk0⟩ := HH.out
                        clear HH
                        refine ordt_e ?_
                        (refine op_e (o := ?_) ?_ ?_ (fun K hK => ?_); rotate_left 1; (focus ((simp only [List.getElem?_toArray, List.getElem?_cons_succ, List.getElem?_cons_zero]) <;> rfl)); (focus rfl); go_simp)
                        refine (bitsL_any (x : Int) ni _ (Int.natCast_nonneg _) (by omega) (by omega)).mono ?_
                        rintro e w1_3 ⟨sb, cb2, rfl, h2, hq⟩
                        have h1 := h1.mono hq
                        have hk0 := blk_below hq (blk_lt hk0) hk0
                        have hbz := hbz.trans (hq.mono hbz.size)
                        refine hK.out _ _ (HC.out _ (HR.out.trans (hbz.mono HR.out.size))).cb ?_
                        clear hK K hq
                        have HH := Lib.hid (And.intro hbz (And.intro h1 (And.intro hk0 h2)))
                        clear hbz h1 hk0 h2
                        (try simp only [Act.put, List.setIfInBounds_toArray, List.set_cons_zero, List.set_cons_succ])
                        obtain ⟨hbz, h1, hk0, h2⟩ := HH.out
                        clear HH
                        refine ordt_e ?_
                        (refine op_e (o := ?_) ?_ ?_ (fun K hK => ?_); rotate_left 1; (focus ((simp only [List.getElem?_toArray, List.getElem?_cons_succ, List.getElem?_cons_zero]) <;> rfl)); (focus rfl); go_simp)
                        refine (HST1.out _ _ _ _ _ (HR.out.trans (hbz.mono HR.out.size)) h1 h2).mono ?_
                        rintro e w1_4 ⟨t1, d1, t2, d2, rfl, h3, h4, hq⟩
                        have hk0 := blk_below hq (blk_lt hk0) hk0
                        have hbz := hbz.trans (hq.mono hbz.size)
                        refine hK.out _ _ (HC.out _ (HR.out.trans (hbz.mono HR.out.size))).cb ?_
                        clear hK K hq
                        have HH := Lib.hid (And.intro hbz (And.intro hk0 (And.intro h3 h4)))
                        clear hbz hk0 h3 h4
                        (try simp only [Act.put, List.setIfInBounds_toArray, List.set_cons_zero, List.set_cons_succ])
                        obtain ⟨hbz, hk0, h3, h4⟩ := HH.out
                        clear HH
                        obtain ⟨rc, rf⟩ := blk_all hk0
                        refine ordt_e ?_
                        (refine op_e (o := ?_) ?_ ?_ (fun K hK => ?_); rotate_left 1; (focus ((simp only [List.getElem?_toArray, List.getElem?_cons_succ, List.getElem?_cons_zero]) <;> rfl)); (focus rfl); go_simp)
                        have hU : Upd b w1_4 ((w1_4.setCell ⟨b, 0, none⟩ (.slice t1 C.outs.length d1)).setCell ⟨b, 1, none⟩ (.slice t2 C.next.length d2)) := (Upd.set _ _ _ _).trans (Upd.set _ _ _ _)
                        have hZ : ((w1_4.setCell ⟨b, 0, none⟩ (.slice t1 C.outs.length d1)).setCell ⟨b, 1, none⟩ (.slice t2 C.next.length d2)).heap[b]? = some (.cells #[.slice t1 C.outs.length d1, .slice t2 C.next.length d2] 36 (0, 0)) := by
                          simpa using blk_set (o := 1) (v := .slice t2 C.next.length d2) (blk_set (o := 0) (v := .slice t1 C.outs.length d1) hk0)
                        have hs1 := h3.updB hU hk0
                        have hs2 := h4.updB hU hk0
                        have hbw : Below wr.heap.size wr ((w1_4.setCell ⟨b, 0, none⟩ (.slice t1 C.outs.length d1)).setCell ⟨b, 1, none⟩ (.slice t2 C.next.length d2)) := (hbz.setCell (p := ⟨b, 0, none⟩) hbge _).setCell (p := ⟨b, 1, none⟩) hbge _
                        refine hK.out _ _ (HC.out _ (HR.out.trans (hbw.mono HR.out.size))).cb ?_
                        clear hK K
                        (try simp only [Act.put, List.setIfInBounds_toArray, List.set_cons_zero, List.set_cons_succ])
                        refine ordt_nil ?_
                        have HF := Lib.hid (And.intro hZ (And.intro hs1 (And.intro hs2 hbw)))
                        clear hZ hs1 hs2 hbw hU rc rf hk0 h3 h4 hbz
                        go_wp2_with fail
                        go_meet
                        exact ⟨b, t1, d1, t2, d2, rfl, HF.out⟩
                    · (refine op_e (o := ?_) ?_ ?_ (fun K hK => ?_); rotate_left 1; (focus ((simp only [List.getElem?_toArray, List.getElem?_cons_succ, List.getElem?_cons_zero]) <;> rfl)); (focus rfl); go_simp)
                      obtain ⟨b, hbq⟩ : ∃ b, b = w1_0.heap.size := ⟨_, rfl⟩
                      have hbge : wr.heap.size ≤ b := by rw [hbq]; exact hbz.size
                      have hq := below_alloc w1_0 (.cells #[.slice none 0 0, .slice none 0 0] 36)
                      have hk0 := blk_new w1_0 (.cells #[.slice none 0 0, .slice none 0 0] 36)
                      rw [← hbq] at hk0
                      rw [← hbq]
                      clear hbq
                      revert hq hk0
                      generalize w1_0.alloc (.cells #[.slice none 0 0, .slice none 0 0] 36) = w1_1
                      intro hq hk0
                      have hbz := hbz.trans (hq.mono hbz.size)
                      refine hK.out _ _ (HC.out _ (HR.out.trans (hbz.mono HR.out.size))).cb ?_
                      clear hK K hq
                      have HH := Lib.hid (And.intro hbz hk0)
                      clear hbz hk0
                      (try simp only [Act.put, List.setIfInBounds_toArray, List.set_cons_zero, List.set_cons_succ])
                      obtain ⟨hbz, hk0⟩ := HH.out
                      clear HH
                      refine ordt_e ?_
                      (refine op_e (o := ?_) ?_ ?_ (fun K hK => ?_); rotate_left 1; (focus ((simp only [List.getElem?_toArray, List.getElem?_cons_succ, List.getElem?_cons_zero]) <;> rfl)); (focus rfl); go_simp)
                      refine (bitsL_any (k : Int) C.next.length _ (Int.natCast_nonneg _) (by omega) (by omega)).mono ?_
                      rintro e w1_2 ⟨sa, ca, rfl, h1, hq⟩
                      have hk0 := blk_below hq (blk_lt hk0) hk0
                      have hbz := hbz.trans (hq.mono hbz.size)
                      refine hK.out _ _ (HC.out _ (HR.out.trans (hbz.mono HR.out.size))).cb ?_
                      clear hK K hq
                      have HH := Lib.hid (And.intro hbz (And.intro hk0 h1))
                      clear hbz hk0 h1
                      (try simp only [Act.put, List.setIfInBounds_toArray, List.set_cons_zero, List.set_cons_succ])
                      obtain ⟨hbz, hk0, h1⟩ := HH.out
                      clear HH
                      refine ordt_e ?_
                      (refine op_e (o := ?_) ?_ ?_ (fun K hK => ?_); rotate_left 1; (focus ((simp only [List.getElem?_toArray, List.getElem?_cons_succ, List.getElem?_cons_zero]) <;> rfl)); (focus rfl); go_simp)
                      refine (bitsL_any (x : Int) ni _ (Int.natCast_nonneg _) (by omega) (by omega)).mono ?_
                      rintro e w1_3 ⟨sb, cb2, rfl, h2, hq⟩
                      have hk0 := blk_below hq (blk_lt hk0) hk0
                      have h1 := h1.mono hq
                      have hbz := hbz.trans (hq.mono hbz.size)
                      refine hK.out _ _ (HC.out _ (HR.out.trans (hbz.mono HR.out.size))).cb ?_
                      clear hK K hq
                      have HH := Lib.hid (And.intro hbz (And.intro hk0 (And.intro h1 h2)))
                      clear hbz hk0 h1 h2
                      (try simp only [Act.put, List.setIfInBounds_toArray, List.set_cons_zero, List.set_cons_succ])
                      obtain ⟨hbz, hk0, h1, h2⟩ := HH.out
                      clear HH
                      refine ordt_e ?_
                      (refine op_e (o := ?_) ?_ ?_ (fun K hK => ?_); rotate_left 1; (focus ((simp only [List.getElem?_toArray, List.getElem?_cons_succ, List.getElem?_cons_zero]) <;> rfl)); (focus rfl); go_simp)
                      refine (HST1.out _ _ _ _ _ (HR.out.trans (hbz.mono HR.out.size)) h1 h2).mono ?_
                      rintro e w1_4 ⟨t1, d1, t2, d2, rfl, h3, h4, hq⟩
                      have hk0 := blk_below hq (blk_lt hk0) hk0
                      have hbz := hbz.trans (hq.mono hbz.size)
                      refine hK.out _ _ (HC.out _ (HR.out.trans (hbz.mono HR.out.size))).cb ?_
                      clear hK K hq
                      have HH := Lib.hid (And.intro hbz (And.intro hk0 (And.intro h3 h4)))
                      clear hbz hk0 h3 h4
                      (try simp only [Act.put, List.setIfInBounds_toArray, List.set_cons_zero, List.set_cons_succ])
                      obtain ⟨hbz, hk0, h3, h4⟩ := HH.out
                      clear HH
                      obtain ⟨rc, rf⟩ := blk_all hk0
                      refine ordt_e ?_
                      (refine op_e (o := ?_) ?_ ?_ (fun K hK => ?_); rotate_left 1; (focus ((simp only [List.getElem?_toArray, List.getElem?_cons_succ, List.getElem?_cons_zero]) <;> rfl)); (focus rfl); go_simp)
                      have hU : Upd b w1_4 ((w1_4.setCell ⟨b, 0, none⟩ (.slice t1 C.outs.length d1)).setCell ⟨b, 1, none⟩ (.slice t2 C.next.length d2)) := (Upd.set _ _ _ _).trans (Upd.set _ _ _ _)
                      have hZ : ((w1_4.setCell ⟨b, 0, none⟩ (.slice t1 C.outs.length d1)).setCell ⟨b, 1, none⟩ (.slice t2 C.next.length d2)).heap[b]? = some (.cells #[.slice t1 C.outs.length d1, .slice t2 C.next.length d2] 36 (0, 0)) := by
                        simpa using blk_set (o := 1) (v := .slice t2 C.next.length d2) (blk_set (o := 0) (v := .slice t1 C.outs.length d1) hk0)
                      have hs1 := h3.updB hU hk0
                      have hs2 := h4.updB hU hk0
                      have hbw : Below wr.heap.size wr ((w1_4.setCell ⟨b, 0, none⟩ (.slice t1 C.outs.length d1)).setCell ⟨b, 1, none⟩ (.slice t2 C.next.length d2)) := (hbz.setCell (p := ⟨b, 0, none⟩) hbge _).setCell (p := ⟨b, 1, none⟩) hbge _
                      refine hK.out _ _ (HC.out _ (HR.out.trans (hbw.mono HR.out.size))).cb ?_
                      clear hK K
                      (try simp only [Act.put, List.setIfInBounds_toArray, List.set_cons_zero, List.set_cons_succ])
                      refine ordt_nil ?_
                      have HF := Lib.hid (And.intro hZ (And.intro hs1 (And.intro hs2 hbw)))
                      clear hZ hs1 hs2 hbw hU rc rf hk0 h3 h4 hbz
                      go_wp2_with fail
                      go_meet
                      exact ⟨b, t1, d1, t2, d2, rfl, HF.out⟩
                  case rest =>
                    obtain ⟨b1, s1, d1, s2, d2, rfl, hp1, hp2, hp3, hpb⟩ := hcut
                    have HR2 := Lib.hid (HR.out.trans (hpb.mono HR.out.size))
                    have HP1 := Lib.hid (And.intro hp1 (And.intro hp2 hp3))
                    clear hp1 hp2 hp3 hpb
                    obtain ⟨wd, hwd⟩ : ∃ wd, wd = wc := ⟨_, rfl⟩
                    rw [← hwd] at HR2 HP1
                    rw [← hwd]
                    clear hwd
                    go_upto_region 22 with fail
                    go_cut [10] from 81 to 91 (fun sD wx => ∃ b t1 d1 t2 d2, sD = .pointer (some ⟨b, 0, none⟩) ∧ wx.heap[b]? = some (.cells #[.slice t1 C.outs.length d1, .slice t2 C.next.length d2] 36 (0, 0)) ∧ Sl wx t1 (bools O2) ∧ Sl wx t2 (bools N2) ∧ Below wd.heap.size wd wx)
                    case first =>
                      refine wp_region_T (fun w' => ∀ o, w'.cell? ⟨B, o, none⟩ = #[Value.int .i64 ni, .slice sn C.next.length cn, .slice sg C.gates.length cg, .slice so C.outs.length co][o]?) (.q 0 (.q 1 (.q 2 (.q 3 (.q 4 (.q 6 (.q 7 (.q 8 (.two 5 (.two 9 (.two 10 (.e 11 (.e 12 .nil)) 11 (.e 10 (.e 12 .nil))) 11 (.e 9 (.e 10 (.e 12 .nil)))) 11 (.e 5 (.e 9 (.e 10 (.e 12 .nil))))))))))))) (by kernel_rfl) (by kernel_rfl) (by kernel_rfl) (HC.out _ HR2.out.drew).cb ?_
                      have hbz : Below wd.heap.size wd wd.drew := (Below.refl _ _).drew
                      revert hbz
                      generalize wd.drew = w2_0
                      intro hbz
                      repeat (first | (refine ordt_s (o := ?_) ?_ ?_ ?_; rotate_left 1; (focus ((simp only [List.getElem?_toArray, List.getElem?_cons_succ, List.getElem?_cons_zero]) <;> rfl)); (focus rfl); simp only [Act.put, List.setIfInBounds_toArray, List.set_cons_zero, List.set_cons_succ]) | (refine ordt_q (o := ?_) (v := ?_) ?_ ?_ ?_ ?_; rotate_left 2; (focus ((simp only [List.getElem?_toArray, List.getElem?_cons_succ, List.getElem?_cons_zero]) <;> rfl)); (focus rfl); (focus (intro w' hS; (try dsimp only at hS); go_split_ands; go_simp; (try (with_reducible rfl)))); simp only [Act.put, List.setIfInBounds_toArray, List.set_cons_zero, List.set_cons_succ]))
                      refine ordt_two ?_ ?_
                      · (refine op_e (o := ?_) ?_ ?_ (fun K hK => ?_); rotate_left 1; (focus ((simp only [List.getElem?_toArray, List.getElem?_cons_succ, List.getElem?_cons_zero]) <;> rfl)); (focus rfl); go_simp)
                        refine (bitsL_any (j : Int) C.next.length _ (Int.natCast_nonneg _) (by omega) (by omega)).mono ?_
                        rintro e w2_1 ⟨sa, ca, rfl, h1, hq⟩
                        have hbz := hbz.trans (hq.mono hbz.size)
                        refine hK.out _ _ (HC.out _ (HR2.out.trans (hbz.mono HR2.out.size))).cb ?_
                        clear hK K hq
                        have HH := Lib.hid (And.intro hbz h1)
                        clear hbz h1
                        (try simp only [Act.put, List.setIfInBounds_toArray, List.set_cons_zero, List.set_cons_succ])
                        obtain ⟨hbz, h1⟩ := HH.out
                        clear HH
                        refine ordt_two ?_ ?_
                        · (refine op_e (o := ?_) ?_ ?_ (fun K hK => ?_); rotate_left 1; (focus ((simp only [List.getElem?_toArray, List.getElem?_cons_succ, List.getElem?_cons_zero]) <;> rfl)); (focus rfl); go_simp)
                          refine (bitsL_any (x : Int) ni _ (Int.natCast_nonneg _) (by omega) (by omega)).mono ?_
                          rintro e w2_2 ⟨sb, cb2, rfl, h2, hq⟩
                          have h1 := h1.mono hq
                          have hbz := hbz.trans (hq.mono hbz.size)
                          refine hK.out _ _ (HC.out _ (HR2.out.trans (hbz.mono HR2.out.size))).cb ?_
                          clear hK K hq
                          have HH := Lib.hid (And.intro hbz (And.intro h1 h2))
                          clear hbz h1 h2
                          (try simp only [Act.put, List.setIfInBounds_toArray, List.set_cons_zero, List.set_cons_succ])
                          obtain ⟨hbz, h1, h2⟩ := HH.out
                          clear HH
                          refine ordt_two ?_ ?_
                          · (refine op_e (o := ?_) ?_ ?_ (fun K hK => ?_); rotate_left 1; (focus ((simp only [List.getElem?_toArray, List.getElem?_cons_succ, List.getElem?_cons_zero]) <;> rfl)); (focus rfl); go_simp)
                            refine (HST2.out _ _ _ _ _ (HR2.out.trans (hbz.mono HR2.out.size)) h1 h2).mono ?_
                            rintro e w2_3 ⟨t1, d1, t2, d2, rfl, h3, h4, hq⟩
                            have hbz := hbz.trans (hq.mono hbz.size)
                            refine hK.out _ _ (HC.out _ (HR2.out.trans (hbz.mono HR2.out.size))).cb ?_
                            clear hK K hq
                            have HH := Lib.hid (And.intro hbz (And.intro h3 h4))
                            clear hbz h3 h4
                            (try simp only [Act.put, List.setIfInBounds_toArray, List.set_cons_zero, List.set_cons_succ])
                            obtain ⟨hbz, h3, h4⟩ := HH.out
                            clear HH
                            refine ordt_e ?_
                            (refine op_e (o := ?_) ?_ ?_ (fun K hK => ?_); rotate_left 1; (focus ((simp only [List.getElem?_toArray, List.getElem?_cons_succ, List.getElem?_cons_zero]) <;> rfl)); (focus rfl); go_simp)
                            obtain ⟨b, hbq⟩ : ∃ b, b = w2_3.heap.size := ⟨_, rfl⟩
                            have hbge : wd.heap.size ≤ b := by rw [hbq]; exact hbz.size
                            have hq := below_alloc w2_3 (.cells #[.slice none 0 0, .slice none 0 0] 36)
                            have hk0 := blk_new w2_3 (.cells #[.slice none 0 0, .slice none 0 0] 36)
                            rw [← hbq] at hk0
                            rw [← hbq]
                            clear hbq
                            revert hq hk0
                            generalize w2_3.alloc (.cells #[.slice none 0 0, .slice none 0 0] 36) = w2_4
                            intro hq hk0
                            have h3 := h3.mono hq
                            have h4 := h4.mono hq
                            have hbz := hbz.trans (hq.mono hbz.size)
                            refine hK.out _ _ (HC.out _ (HR2.out.trans (hbz.mono HR2.out.size))).cb ?_
                            clear hK K hq
                            have HH := Lib.hid (And.intro hbz (And.intro h3 (And.intro h4 hk0)))
                            clear hbz h3 h4 hk0
                            (try simp only [Act.put, List.setIfInBounds_toArray, List.set_cons_zero, List.set_cons_succ])
                            obtain ⟨hbz, h3, h4, hk0⟩ := HH.out
                            clear HH
                            obtain ⟨rc, rf⟩ := blk_all hk0
                            refine ordt_e ?_
                            (refine op_e (o := ?_) ?_ ?_ (fun K hK => ?_); rotate_left 1; (focus ((simp only [List.getElem?_toArray, List.getElem?_cons_succ, List.getElem?_cons_zero]) <;> rfl)); (focus rfl); go_simp)
                            have hU : Upd b w2_4 ((w2_4.setCell ⟨b, 0, none⟩ (.slice t1 C.outs.length d1)).setCell ⟨b, 1, none⟩ (.slice t2 C.next.length d2)) := (Upd.set _ _ _ _).trans (Upd.set _ _ _ _)
                            have hZ : ((w2_4.setCell ⟨b, 0, none⟩ (.slice t1 C.outs.length d1)).setCell ⟨b, 1, none⟩ (.slice t2 C.next.length d2)).heap[b]? = some (.cells #[.slice t1 C.outs.length d1, .slice t2 C.next.length d2] 36 (0, 0)) := by
                              simpa using blk_set (o := 1) (v := .slice t2 C.next.length d2) (blk_set (o := 0) (v := .slice t1 C.outs.length d1) hk0)
                            have hs1 := h3.updB hU hk0
                            have hs2 := h4.updB hU hk0
                            have hbw : Below wd.heap.size wd ((w2_4.setCell ⟨b, 0, none⟩ (.slice t1 C.outs.length d1)).setCell ⟨b, 1, none⟩ (.slice t2 C.next.length d2)) := (hbz.setCell (p := ⟨b, 0, none⟩) hbge _).setCell (p := ⟨b, 1, none⟩) hbge _
                            refine hK.out _ _ (HC.out _ (HR2.out.trans (hbw.mono HR2.out.size))).cb ?_
                            clear hK K
                            (try simp only [Act.put, List.setIfInBounds_toArray, List.set_cons_zero, List.set_cons_succ])
                            refine ordt_nil ?_
                            have HF := Lib.hid (And.intro hZ (And.intro hs1 (And.intro hs2 hbw)))
                            clear hZ hs1 hs2 hbw hU rc rf hk0 h3 h4 hbz
                            go_wp2_with fail
                            go_meet
                            exact ⟨b, t1, d1, t2, d2, rfl, HF.out⟩
                          · (refine op_e (o := ?_) ?_ ?_ (fun K hK => ?_); rotate_left 1; (focus ((simp only [List.getElem?_toArray, List.getElem?_cons_succ, List.getElem?_cons_zero]) <;> rfl)); (focus rfl); go_simp)
                            obtain ⟨b, hbq⟩ : ∃ b, b = w2_2.heap.size := ⟨_, rfl⟩
                            have hbge : wd.heap.size ≤ b := by rw [hbq]; exact hbz.size
                            have hq := below_alloc w2_2 (.cells #[.slice none 0 0, .slice none 0 0] 36)
                            have hk0 := blk_new w2_2 (.cells #[.slice none 0 0, .slice none 0 0] 36)
                            rw [← hbq] at hk0
                            rw [← hbq]
                            clear hbq
                            revert hq hk0
                            generalize w2_2.alloc (.cells #[.slice none 0 0, .slice none 0 0] 36) = w2_3
                            intro hq hk0
                            have h1 := h1.mono hq
                            have h2 := h2.mono hq
                            have hbz := hbz.trans (hq.mono hbz.size)
                            refine hK.out _ _ (HC.out _ (HR2.out.trans (hbz.mono HR2.out.size))).cb ?_
                            clear hK K hq
                            have HH := Lib.hid (And.intro hbz (And.intro h1 (And.intro h2 hk0)))
                            clear hbz h1 h2 hk0
                            (try simp only [Act.put, List.setIfInBounds_toArray, List.set_cons_zero, List.set_cons_succ])
                            obtain ⟨hbz, h1, h2, hk0⟩ := HH.out
                            clear HH
                            refine ordt_e ?_
                            (refine op_e (o := ?_) ?_ ?_ (fun K hK => ?_); rotate_left 1; (focus ((simp only [List.getElem?_toArray, List.getElem?_cons_succ, List.getElem?_cons_zero]) <;> rfl)); (focus rfl); go_simp)
                            refine (HST2.out _ _ _ _ _ (HR2.out.trans (hbz.mono HR2.out.size)) h1 h2).mono ?_
                            rintro e w2_4 ⟨t1, d1, t2, d2, rfl, h3, h4, hq⟩
                            have hk0 := blk_below hq (blk_lt hk0) hk0
                            have hbz := hbz.trans (hq.mono hbz.size)
                            refine hK.out _ _ (HC.out _ (HR2.out.trans (hbz.mono HR2.out.size))).cb ?_
                            clear hK K hq
                            have HH := Lib.hid (And.intro hbz (And.intro hk0 (And.intro h3 h4)))
                            clear hbz hk0 h3 h4
                            (try simp only [Act.put, List.setIfInBounds_toArray, List.set_cons_zero, List.set_cons_succ])
                            obtain ⟨hbz, hk0, h3, h4⟩ := HH.out
                            clear HH
                            obtain ⟨rc, rf⟩ := blk_all hk0
                            refine ordt_e ?_
                            (refine op_e (o := ?_) ?_ ?_ (fun K hK => ?_); rotate_left 1; (focus ((simp only [List.getElem?_toArray, List.getElem?_cons_succ, List.getElem?_cons_zero]) <;> rfl)); (focus rfl); go_simp)
                            have hU : Upd b w2_4 ((w2_4.setCell ⟨b, 0, none⟩ (.slice t1 C.outs.length d1)).setCell ⟨b, 1, none⟩ (.slice t2 C.next.length d2)) := (Upd.set _ _ _ _).trans (Upd.set _ _ _ _)
                            have hZ : ((w2_4.setCell ⟨b, 0, none⟩ (.slice t1 C.outs.length d1)).setCell ⟨b, 1, none⟩ (.slice t2 C.next.length d2)).heap[b]? = some (.cells #[.slice t1 C.outs.length d1, .slice t2 C.next.length d2] 36 (0, 0)) := by
                              simpa using blk_set (o := 1) (v := .slice t2 C.next.length d2) (blk_set (o := 0) (v := .slice t1 C.outs.length d1) hk0)
                            have hs1 := h3.updB hU hk0
                            have hs2 := h4.updB hU hk0
                            have hbw : Below wd.heap.size wd ((w2_4.setCell ⟨b, 0, none⟩ (.slice t1 C.outs.length d1)).setCell ⟨b, 1, none⟩ (.slice t2 C.next.length d2)) := (hbz.setCell (p := ⟨b, 0, none⟩) hbge _).setCell (p := ⟨b, 1, none⟩) hbge _
                            refine hK.out _ _ (HC.out _ (HR2.out.trans (hbw.mono HR2.out.size))).cb ?_
                            clear hK K
                            (try simp only [Act.put, List.setIfInBounds_toArray, List.set_cons_zero, List.set_cons_succ])
                            refine ordt_nil ?_
                            have HF := Lib.hid (And.intro hZ (And.intro hs1 (And.intro hs2 hbw)))
                            clear hZ hs1 hs2 hbw hU rc rf hk0 h3 h4 hbz
                            go_wp2_with fail
                            go_meet
                            exact ⟨b, t1, d1, t2, d2, rfl, HF.out⟩
                        · (refine op_e (o := ?_) ?_ ?_ (fun K hK => ?_); rotate_left 1; (focus ((simp only [List.getElem?_toArray, List.getElem?_cons_succ, List.getElem?_cons_zero]) <;> rfl)); (focus rfl); go_simp)
                          obtain ⟨b, hbq⟩ : ∃ b, b = w2_1.heap.size := ⟨_, rfl⟩
                          have hbge : wd.heap.size ≤ b := by rw [hbq]; exact hbz.size
                          have hq := below_alloc w2_1 (.cells #[.slice none 0 0, .slice none 0 0] 36)
                          have hk0 := blk_new w2_1 (.cells #[.slice none 0 0, .slice none 0 0] 36)
                          rw [← hbq] at hk0
                          rw [← hbq]
                          clear hbq
                          revert hq hk0
                          generalize w2_1.alloc (.cells #[.slice none 0 0, .slice none 0 0] 36) = w2_2
                          intro hq hk0
                          have h1 := h1.mono hq
                          have hbz := hbz.trans (hq.mono hbz.size)
                          refine hK.out _ _ (HC.out _ (HR2.out.trans (hbz.mono HR2.out.size))).cb ?_
                          clear hK K hq
                          have HH := Lib.hid (And.intro hbz (And.intro h1 hk0))
                          clear hbz h1 hk0
                          (try simp only [Act.put, List.setIfInBounds_toArray, List.set_cons_zero, List.set_cons_succ])
                          obtain ⟨hbz, h1, hk0⟩ := HH.out
                          clear HH
                          refine ordt_e ?_
                          (refine op_e (o := ?_) ?_ ?_ (fun K hK => ?_); rotate_left 1; (focus ((simp only [List.getElem?_toArray, List.getElem?_cons_succ, List.getElem?_cons_zero]) <;> rfl)); (focus rfl); go_simp)
                          refine (bitsL_any (x : Int) ni _ (Int.natCast_nonneg _) (by omega) (by omega)).mono ?_
                          rintro e w2_3 ⟨sb, cb2, rfl, h2, hq⟩
                          have h1 := h1.mono hq
                          have hk0 := blk_below hq (blk_lt hk0) hk0
                          have hbz := hbz.trans (hq.mono hbz.size)
                          refine hK.out _ _ (HC.out _ (HR2.out.trans (hbz.mono HR2.out.size))).cb ?_
                          clear hK K hq
                          have HH := Lib.hid (And.intro hbz (And.intro h1 (And.intro hk0 h2)))
                          clear hbz h1 hk0 h2
                          (try simp only [Act.put, List.setIfInBounds_toArray, List.set_cons_zero, List.set_cons_succ])
                          obtain ⟨hbz, h1, hk0, h2⟩ := HH.out
                          clear HH
                          refine ordt_e ?_
                          (refine op_e (o := ?_) ?_ ?_ (fun K hK => ?_); rotate_left 1; (focus ((simp only [List.getElem?_toArray, List.getElem?_cons_succ, List.getElem?_cons_zero]) <;> rfl)); (focus rfl); go_simp)
                          refine (HST2.out _ _ _ _ _ (HR2.out.trans (hbz.mono HR2.out.size)) h1 h2).mono ?_
                          rintro e w2_4 ⟨t1, d1, t2, d2, rfl, h3, h4, hq⟩
                          have hk0 := blk_below hq (blk_lt hk0) hk0
                          have hbz := hbz.trans (hq.mono hbz.size)
                          refine hK.out _ _ (HC.out _ (HR2.out.trans (hbz.mono HR2.out.size))).cb ?_
                          clear hK K hq
                          have HH := Lib.hid (And.intro hbz (And.intro hk0 (And.intro h3 h4)))
                          clear hbz hk0 h3 h4
                          (try simp only [Act.put, List.setIfInBounds_toArray, List.set_cons_zero, List.set_cons_succ])
                          obtain ⟨hbz, hk0, h3, h4⟩ := HH.out
                          clear HH
                          obtain ⟨rc, rf⟩ := blk_all hk0
                          refine ordt_e ?_
                          (refine op_e (o := ?_) ?_ ?_ (fun K hK => ?_); rotate_left 1; (focus ((simp only [List.getElem?_toArray, List.getElem?_cons_succ, List.getElem?_cons_zero]) <;> rfl)); (focus rfl); go_simp)
                          have hU : Upd b w2_4 ((w2_4.setCell ⟨b, 0, none⟩ (.slice t1 C.outs.length d1)).setCell ⟨b, 1, none⟩ (.slice t2 C.next.length d2)) := (Upd.set _ _ _ _).trans (Upd.set _ _ _ _)
                          have hZ : ((w2_4.setCell ⟨b, 0, none⟩ (.slice t1 C.outs.length d1)).setCell ⟨b, 1, none⟩ (.slice t2 C.next.length d2)).heap[b]? = some (.cells #[.slice t1 C.outs.length d1, .slice t2 C.next.length d2] 36 (0, 0)) := by
                            simpa using blk_set (o := 1) (v := .slice t2 C.next.length d2) (blk_set (o := 0) (v := .slice t1 C.outs.length d1) hk0)
                          have hs1 := h3.updB hU hk0
                          have hs2 := h4.updB hU hk0
                          have hbw : Below wd.heap.size wd ((w2_4.setCell ⟨b, 0, none⟩ (.slice t1 C.outs.length d1)).setCell ⟨b, 1, none⟩ (.slice t2 C.next.length d2)) := (hbz.setCell (p := ⟨b, 0, none⟩) hbge _).setCell (p := ⟨b, 1, none⟩) hbge _
                          refine hK.out _ _ (HC.out _ (HR2.out.trans (hbw.mono HR2.out.size))).cb ?_
                          clear hK K
                          (try simp only [Act.put, List.setIfInBounds_toArray, List.set_cons_zero, List.set_cons_succ])
                          refine ordt_nil ?_
                          have HF := Lib.hid (And.intro hZ (And.intro hs1 (And.intro hs2 hbw)))
                          clear hZ hs1 hs2 hbw hU rc rf hk0 h3 h4 hbz
                          go_wp2_with fail
                          go_meet
                          exact ⟨b, t1, d1, t2, d2, rfl, HF.out⟩
                      · (refine op_e (o := ?_) ?_ ?_ (fun K hK => ?_); rotate_left 1; (focus ((simp only [List.getElem?_toArray, List.getElem?_cons_succ, List.getElem?_cons_zero]) <;> rfl)); (focus rfl); go_simp)
                        obtain ⟨b, hbq⟩ : ∃ b, b = w2_0.heap.size := ⟨_, rfl⟩
                        have hbge : wd.heap.size ≤ b := by rw [hbq]; exact hbz.size
                        have hq := below_alloc w2_0 (.cells #[.slice none 0 0, .slice none 0 0] 36)
                        have hk0 := blk_new w2_0 (.cells #[.slice none 0 0, .slice none 0 0] 36)
                        rw [← hbq] at hk0
                        rw [← hbq]
                        clear hbq
                        revert hq hk0
                        generalize w2_0.alloc (.cells #[.slice none 0 0, .slice none 0 0] 36) = w2_1
                        intro hq hk0
                        have hbz := hbz.trans (hq.mono hbz.size)
                        refine hK.out _ _ (HC.out _ (HR2.out.trans (hbz.mono HR2.out.size))).cb ?_
                        clear hK K hq
                        have HH := Lib.hid (And.intro hbz hk0)
                        clear hbz hk0
                        (try simp only [Act.put, List.setIfInBounds_toArray, List.set_cons_zero, List.set_cons_succ])
                        obtain ⟨hbz, hk0⟩ := HH.out
                        clear HH
                        refine ordt_e ?_
                        (refine op_e (o := ?_) ?_ ?_ (fun K hK => ?_); rotate_left 1; (focus ((simp only [List.getElem?_toArray, List.getElem?_cons_succ, List.getElem?_cons_zero]) <;> rfl)); (focus rfl); go_simp)
                        refine (bitsL_any (j : Int) C.next.length _ (Int.natCast_nonneg _) (by omega) (by omega)).mono ?_
                        rintro e w2_2 ⟨sa, ca, rfl, h1, hq⟩
                        have hk0 := blk_below hq (blk_lt hk0) hk0
                        have hbz := hbz.trans (hq.mono hbz.size)
                        refine hK.out _ _ (HC.out _ (HR2.out.trans (hbz.mono HR2.out.size))).cb ?_
                        clear hK K hq
                        have HH := Lib.hid (And.intro hbz (And.intro hk0 h1))
                        clear hbz hk0 h1
                        (try simp only [Act.put, List.setIfInBounds_toArray, List.set_cons_zero, List.set_cons_succ])
                        obtain ⟨hbz, hk0, h1⟩ := HH.out
                        clear HH
                        refine ordt_e ?_
                        (refine op_e (o := ?_) ?_ ?_ (fun K hK => ?_); rotate_left 1; (focus ((simp only [List.getElem?_toArray, List.getElem?_cons_succ, List.getElem?_cons_zero]) <;> rfl)); (focus rfl); go_simp)
                        refine (bitsL_any (x : Int) ni _ (Int.natCast_nonneg _) (by omega) (by omega)).mono ?_
                        rintro e w2_3 ⟨sb, cb2, rfl, h2, hq⟩
                        have hk0 := blk_below hq (blk_lt hk0) hk0
                        have h1 := h1.mono hq
                        have hbz := hbz.trans (hq.mono hbz.size)
                        refine hK.out _ _ (HC.out _ (HR2.out.trans (hbz.mono HR2.out.size))).cb ?_
                        clear hK K hq
                        have HH := Lib.hid (And.intro hbz (And.intro hk0 (And.intro h1 h2)))
                        clear hbz hk0 h1 h2
                        (try simp only [Act.put, List.setIfInBounds_toArray, List.set_cons_zero, List.set_cons_succ])
                        obtain ⟨hbz, hk0, h1, h2⟩ := HH.out
                        clear HH
                        refine ordt_e ?_
                        (refine op_e (o := ?_) ?_ ?_ (fun K hK => ?_); rotate_left 1; (focus ((simp only [List.getElem?_toArray, List.getElem?_cons_succ, List.getElem?_cons_zero]) <;> rfl)); (focus rfl); go_simp)
                        refine (HST2.out _ _ _ _ _ (HR2.out.trans (hbz.mono HR2.out.size)) h1 h2).mono ?_
                        rintro e w2_4 ⟨t1, d1, t2, d2, rfl, h3, h4, hq⟩
                        have hk0 := blk_below hq (blk_lt hk0) hk0
                        have hbz := hbz.trans (hq.mono hbz.size)
                        refine hK.out _ _ (HC.out _ (HR2.out.trans (hbz.mono HR2.out.size))).cb ?_
                        clear hK K hq
                        have HH := Lib.hid (And.intro hbz (And.intro hk0 (And.intro h3 h4)))
                        clear hbz hk0 h3 h4
                        (try simp only [Act.put, List.setIfInBounds_toArray, List.set_cons_zero, List.set_cons_succ])
                        obtain ⟨hbz, hk0, h3, h4⟩ := HH.out
                        clear HH
                        obtain ⟨rc, rf⟩ := blk_all hk0
                        refine ordt_e ?_
                        (refine op_e (o := ?_) ?_ ?_ (fun K hK => ?_); rotate_left 1; (focus ((simp only [List.getElem?_toArray, List.getElem?_cons_succ, List.getElem?_cons_zero]) <;> rfl)); (focus rfl); go_simp)
                        have hU : Upd b w2_4 ((w2_4.setCell ⟨b, 0, none⟩ (.slice t1 C.outs.length d1)).setCell ⟨b, 1, none⟩ (.slice t2 C.next.length d2)) := (Upd.set _ _ _ _).trans (Upd.set _ _ _ _)
                        have hZ : ((w2_4.setCell ⟨b, 0, none⟩ (.slice t1 C.outs.length d1)).setCell ⟨b, 1, none⟩ (.slice t2 C.next.length d2)).heap[b]? = some (.cells #[.slice t1 C.outs.length d1, .slice t2 C.next.length d2] 36 (0, 0)) := by
                          simpa using blk_set (o := 1) (v := .slice t2 C.next.length d2) (blk_set (o := 0) (v := .slice t1 C.outs.length d1) hk0)
                        have hs1 := h3.updB hU hk0
                        have hs2 := h4.updB hU hk0
                        have hbw : Below wd.heap.size wd ((w2_4.setCell ⟨b, 0, none⟩ (.slice t1 C.outs.length d1)).setCell ⟨b, 1, none⟩ (.slice t2 C.next.length d2)) := (hbz.setCell (p := ⟨b, 0, none⟩) hbge _).setCell (p := ⟨b, 1, none⟩) hbge _
                        refine hK.out _ _ (HC.out _ (HR2.out.trans (hbw.mono HR2.out.size))).cb ?_
                        clear hK K
                        (try simp only [Act.put, List.setIfInBounds_toArray, List.set_cons_zero, List.set_cons_succ])
                        refine ordt_nil ?_
                        have HF := Lib.hid (And.intro hZ (And.intro hs1 (And.intro hs2 hbw)))
                        clear hZ hs1 hs2 hbw hU rc rf hk0 h3 h4 hbz
                        go_wp2_with fail
                        go_meet
                        exact ⟨b, t1, d1, t2, d2, rfl, HF.out⟩
                    case rest =>
                      obtain ⟨b2, s3, d3, s4, d4, rfl, hp1, hp2, hp3, hpb⟩ := hcut
                      have HS : Hid (∀ W, Below wc.heap.size wc W → ((∀ o, W.cell? ⟨b1, o, none⟩ = #[Value.slice s1 C.outs.length d1, .slice s2 C.next.length d2][o]?) ∧ (∀ o, W.cell? ⟨b2, o, none⟩ = #[Value.slice s3 C.outs.length d3, .slice s4 C.next.length d4][o]?) ∧ W.cell? ⟨lb, lo + p1, none⟩ = some (.int .i64 y1) ∧ W.cell? ⟨lb, lo + p2, none⟩ = some (.int .i64 y2)) ∧ (Sl W s1 (bools O1) ∧ Sl W s2 (bools N1) ∧ Sl W s3 (bools O2) ∧ Sl W s4 (bools N2)) ∧ Below w5.heap.size w5 W) := fun W hW => by
                        have h1 := hpb.trans (hW.mono hpb.size)
                        have h2 := HR2.out.trans (h1.mono HR2.out.size)
                        exact ⟨⟨(blk_all (blk_below h1 (blk_lt HP1.out.1) HP1.out.1)).1, (blk_all (blk_below hW (blk_lt hp1) hp1)).1, (HC.out _ h2).lc HP.out.2.2.2.2.2.2.1, (HC.out _ h2).lc HP.out.2.2.2.2.2.2.2.1⟩, ⟨HP1.out.2.1.mono h1, HP1.out.2.2.mono h1, hp2.mono hW, hp3.mono hW⟩, h2⟩
                      clear hp1 hp2 hp3 hpb
                      go_upto_region 23 with fail
                      obtain ⟨eO, heO⟩ : ∃ eO, eO = decide (O1 = O2) := ⟨_, rfl⟩
                      have HEO := Lib.hid heO
                      clear heO
                      cases b
                      · go_quiet (fail)
                        go_wp2_with fail
                        go_roundw
                        case rel =>
                          refine ⟨x + 1, false, by omega, by go_num, rfl, ⟨fun h => (by cases h), fun h => ?_⟩, (HS.out _ (below_n (Below.refl _ _) nq)).2.2⟩
                          exact HBB.out.2 fun y hy => h y (by omega)
                        case measure => simp [intOf]; omega
                      · have hS0 := (HS.out _ (Below.refl _ _).drew).1
                        refine wp_region_T (fun w' => (∀ o, w'.cell? ⟨b1, o, none⟩ = #[Value.slice s1 C.outs.length d1, .slice s2 C.next.length d2][o]?) ∧ (∀ o, w'.cell? ⟨b2, o, none⟩ = #[Value.slice s3 C.outs.length d3, .slice s4 C.next.length d4][o]?) ∧ w'.cell? ⟨lb, lo + p1, none⟩ = some (.int .i64 y1) ∧ w'.cell? ⟨lb, lo + p2, none⟩ = some (.int .i64 y2)) (.q 0 (.q 1 (.q 2 (.q 3 (.q 4 (.q 5 (.e 6 (.q 7 (.q 8 (.q 9 (.q 10 (.q 11 (.q 15 (.q 16 (.q 17 (.e 12 (.q 13 (.q 14 (.e 18 (.q 19 (.q 20 (.q 21 (.q 22 (.q 23 .nil)))))))))))))))))))))))) (by kernel_rfl) (by kernel_rfl) (by kernel_rfl) hS0 ?_
                        repeat (first | (refine ordt_s (o := ?_) ?_ ?_ ?_; rotate_left 1; (focus ((simp only [List.getElem?_toArray, List.getElem?_cons_succ, List.getElem?_cons_zero]) <;> rfl)); (focus rfl); simp only [Act.put, List.setIfInBounds_toArray, List.set_cons_zero, List.set_cons_succ]) | (refine ordt_q (o := ?_) (v := ?_) ?_ ?_ ?_ ?_; rotate_left 2; (focus ((simp only [List.getElem?_toArray, List.getElem?_cons_succ, List.getElem?_cons_zero]) <;> rfl)); (focus rfl); (focus (intro w' hS; (try dsimp only at hS); go_split_ands; go_simp; (try (with_reducible rfl)))); simp only [Act.put, List.setIfInBounds_toArray, List.set_cons_zero, List.set_cons_succ]))
                        refine ordt_e ?_
                        (refine op_e (o := ?_) ?_ ?_ (fun K hK => ?_); rotate_left 1; (focus ((simp only [List.getElem?_toArray, List.getElem?_cons_succ, List.getElem?_cons_zero]) <;> rfl)); (focus rfl); go_simp)
                        refine (sameBools_any s1 s3 d1 d3 C.outs.length O1 O2 _ (HS.out _ (Below.refl _ _).drew).2.1.1 (HS.out _ (Below.refl _ _).drew).2.1.2.2.1 HP.out.1 HP.out.2.1 (by omega)).mono ?_
                        rintro e we ⟨rfl, hd⟩
                        rw [← HEO.out]
                        have hbe : Below wc.heap.size wc we := (Below.refl _ _).drew.trans (hd.below _)
                        refine hK.out _ _ (HS.out _ hbe).1 ?_
                        clear hK K hd hS0
                        have HE := Lib.hid hbe
                        clear hbe
                        have hS0 := (HS.out _ HE.out).1
                        cases eO
                        · (try simp only [Act.put, List.setIfInBounds_toArray, List.set_cons_zero, List.set_cons_succ])
                          repeat (first | (refine ordt_s (o := ?_) ?_ ?_ ?_; rotate_left 1; (focus ((simp only [List.getElem?_toArray, List.getElem?_cons_succ, List.getElem?_cons_zero]) <;> rfl)); (focus rfl); simp only [Act.put, List.setIfInBounds_toArray, List.set_cons_zero, List.set_cons_succ]) | (refine ordt_q (o := ?_) (v := ?_) ?_ ?_ ?_ ?_; rotate_left 2; (focus ((simp only [List.getElem?_toArray, List.getElem?_cons_succ, List.getElem?_cons_zero]) <;> rfl)); (focus rfl); (focus (intro w' hS; (try dsimp only at hS); go_split_ands; go_simp; (try (with_reducible rfl)))); simp only [Act.put, List.setIfInBounds_toArray, List.set_cons_zero, List.set_cons_succ]))
                          (refine ordt_es (o := ?_) ?_ ?_ ?_ ?_; rotate_left 1; (focus ((simp only [List.getElem?_toArray, List.getElem?_cons_succ, List.getElem?_cons_zero]) <;> rfl)); (focus rfl); assumption; simp only [Act.put, List.setIfInBounds_toArray, List.set_cons_zero, List.set_cons_succ])
                          repeat (first | (refine ordt_s (o := ?_) ?_ ?_ ?_; rotate_left 1; (focus ((simp only [List.getElem?_toArray, List.getElem?_cons_succ, List.getElem?_cons_zero]) <;> rfl)); (focus rfl); simp only [Act.put, List.setIfInBounds_toArray, List.set_cons_zero, List.set_cons_succ]) | (refine ordt_q (o := ?_) (v := ?_) ?_ ?_ ?_ ?_; rotate_left 2; (focus ((simp only [List.getElem?_toArray, List.getElem?_cons_succ, List.getElem?_cons_zero]) <;> rfl)); (focus rfl); (focus (intro w' hS; (try dsimp only at hS); go_split_ands; go_simp; (try (with_reducible rfl)))); simp only [Act.put, List.setIfInBounds_toArray, List.set_cons_zero, List.set_cons_succ]))
                          (refine ordt_es (o := ?_) ?_ ?_ ?_ ?_; rotate_left 1; (focus ((simp only [List.getElem?_toArray, List.getElem?_cons_succ, List.getElem?_cons_zero]) <;> rfl)); (focus rfl); assumption; simp only [Act.put, List.setIfInBounds_toArray, List.set_cons_zero, List.set_cons_succ])
                          repeat (first | (refine ordt_s (o := ?_) ?_ ?_ ?_; rotate_left 1; (focus ((simp only [List.getElem?_toArray, List.getElem?_cons_succ, List.getElem?_cons_zero]) <;> rfl)); (focus rfl); simp only [Act.put, List.setIfInBounds_toArray, List.set_cons_zero, List.set_cons_succ]) | (refine ordt_q (o := ?_) (v := ?_) ?_ ?_ ?_ ?_; rotate_left 2; (focus ((simp only [List.getElem?_toArray, List.getElem?_cons_succ, List.getElem?_cons_zero]) <;> rfl)); (focus rfl); (focus (intro w' hS; (try dsimp only at hS); go_split_ands; go_simp; (try (with_reducible rfl)))); simp only [Act.put, List.setIfInBounds_toArray, List.set_cons_zero, List.set_cons_succ]))
                          refine ordt_nil ?_
                          go_wp2_with fail
                          go_roundw
                          case rel =>
                            refine ⟨x + 1, false, by omega, by go_num, rfl, ⟨fun h => (by cases h), fun h => ?_⟩, (HS.out _ HE.out).2.2⟩
                            have := HP.out.2.2.2.2.2.2.2.2.2.2.1 (h x (by omega)).1
                            have h2 := HEO.out
                            rw [decide_eq_true this] at h2
                            cases h2
                          case measure => simp [intOf]; omega
                        · clear hS0
                          (try simp only [Act.put, List.setIfInBounds_toArray, List.set_cons_zero, List.set_cons_succ])
                          repeat (first | (refine ordt_s (o := ?_) ?_ ?_ ?_; rotate_left 1; (focus ((simp only [List.getElem?_toArray, List.getElem?_cons_succ, List.getElem?_cons_zero]) <;> rfl)); (focus rfl); simp only [Act.put, List.setIfInBounds_toArray, List.set_cons_zero, List.set_cons_succ]) | (refine ordt_q (o := ?_) (v := ?_) ?_ ?_ ?_ ?_; rotate_left 2; (focus ((simp only [List.getElem?_toArray, List.getElem?_cons_succ, List.getElem?_cons_zero]) <;> rfl)); (focus rfl); (focus (intro w' hS; (try dsimp only at hS); go_split_ands; go_simp; (try (with_reducible rfl)))); simp only [Act.put, List.setIfInBounds_toArray, List.set_cons_zero, List.set_cons_succ]))
                          refine ordt_e ?_
                          (refine op_e (o := ?_) ?_ ?_ (fun K hK => ?_); rotate_left 1; (focus ((simp only [List.getElem?_toArray, List.getElem?_cons_succ, List.getElem?_cons_zero]) <;> rfl)); (focus rfl); go_simp)
                          have hnum := stateNumber_any s2 d2 N1 we (HS.out _ HE.out).2.1.2.1 (by rw [HP.out.2.2.1]; omega)
                          rw [HP.out.2.2.1, HP.out.2.2.2.2.1] at hnum
                          refine hnum.mono ?_
                          rintro e wf ⟨rfl, rfl⟩
                          refine hK.out _ _ (HS.out _ HE.out).1 ?_
                          clear hK K hnum
                          (try simp only [Act.put, List.setIfInBounds_toArray, List.set_cons_zero, List.set_cons_succ])
                          repeat (first | (refine ordt_s (o := ?_) ?_ ?_ ?_; rotate_left 1; (focus ((simp only [List.getElem?_toArray, List.getElem?_cons_succ, List.getElem?_cons_zero]) <;> rfl)); (focus rfl); simp only [Act.put, List.setIfInBounds_toArray, List.set_cons_zero, List.set_cons_succ]) | (refine ordt_q (o := ?_) (v := ?_) ?_ ?_ ?_ ?_; rotate_left 2; (focus ((simp only [List.getElem?_toArray, List.getElem?_cons_succ, List.getElem?_cons_zero]) <;> rfl)); (focus rfl); (focus (intro w' hS; (try dsimp only at hS); go_split_ands; go_simp; (try (with_reducible rfl)))); simp only [Act.put, List.setIfInBounds_toArray, List.set_cons_zero, List.set_cons_succ]))
                          refine ordt_e ?_
                          (refine op_e (o := ?_) ?_ ?_ (fun K hK => ?_); rotate_left 1; (focus ((simp only [List.getElem?_toArray, List.getElem?_cons_succ, List.getElem?_cons_zero]) <;> rfl)); (focus rfl); go_simp)
                          have hnum := stateNumber_any s4 d4 N2 we (HS.out _ HE.out).2.1.2.2.2 (by rw [HP.out.2.2.2.1]; omega)
                          rw [HP.out.2.2.2.1, HP.out.2.2.2.2.2.1] at hnum
                          refine hnum.mono ?_
                          rintro e wf ⟨rfl, rfl⟩
                          refine hK.out _ _ (HS.out _ HE.out).1 ?_
                          clear hK K hnum
                          (try simp only [Act.put, List.setIfInBounds_toArray, List.set_cons_zero, List.set_cons_succ])
                          repeat (first | (refine ordt_s (o := ?_) ?_ ?_ ?_; rotate_left 1; (focus ((simp only [List.getElem?_toArray, List.getElem?_cons_succ, List.getElem?_cons_zero]) <;> rfl)); (focus rfl); simp only [Act.put, List.setIfInBounds_toArray, List.set_cons_zero, List.set_cons_succ]) | (refine ordt_q (o := ?_) (v := ?_) ?_ ?_ ?_ ?_; rotate_left 2; (focus ((simp only [List.getElem?_toArray, List.getElem?_cons_succ, List.getElem?_cons_zero]) <;> rfl)); (focus rfl); (focus (intro w' hS; (try dsimp only at hS); go_split_ands; go_simp; (try (with_reducible rfl)))); simp only [Act.put, List.setIfInBounds_toArray, List.set_cons_zero, List.set_cons_succ]))
                          refine ordt_nil ?_
                          go_wp2_with fail
                          go_roundw
                          case rel =>
                            have hOO : O1 = O2 := of_decide_eq_true HEO.out.symm
                            refine ⟨x + 1, y1 == y2, by omega, by go_num, rfl, ⟨fun h y hy => ?_, fun h => ?_⟩, (HS.out _ HE.out).2.2⟩
                            · by_cases hyx : y < x
                              · exact HBB.out.1 rfl y hyx
                              · obtain rfl : y = x := by omega
                                exact ⟨HP.out.2.2.2.2.2.2.2.2.2.2.2 hOO, by rw [← HP.out.2.2.2.2.2.2.2.2.1, ← HP.out.2.2.2.2.2.2.2.2.2.1]; simpa using h⟩
                            · have := (h x (by omega)).2
                              rw [← HP.out.2.2.2.2.2.2.2.2.1, ← HP.out.2.2.2.2.2.2.2.2.2.1] at this
                              simp [this]
                          case measure => simp [intOf]; omega
                · obtain rfl : x = M := by omega
                  have hwp := HWP.out.1
                  have hsame := HX.out.2.2.1.same k j hlt hjN
                  rw [HK.out.2.2, HJ.out.2] at hsame
                  have HSM := Lib.hid hsame
                  clear hsame
                  have hS : Hid (∀ W, Below w5.heap.size w5 W → W.cell? ⟨lb, lo + k, none⟩ = some (.int .i64 f) ∧ W.cell? ⟨lb, lo + j, none⟩ = some (.int .i64 g)) := fun W hW => ⟨(HC.out _ hW).lc HK.out.1, (HC.out _ hW).lc HJ.out.1⟩
                  go_upto_region 24 with fail
                  clear cb hwp
                  by_cases e : (f : Int) = g
                  · subst e
                    have hbt : b = true := HBB.out.2 (HSM.out.1 rfl)
                    subst hbt
                    refine wp_region_T (fun w' => w'.cell? ⟨lb, lo + k, none⟩ = some (.int .i64 f) ∧ w'.cell? ⟨lb, lo + j, none⟩ = some (.int .i64 f)) (.q 0 (.q 1 (.q 2 (.q 3 (.q 4 (.q 5 (.q 6 (.q 7 (.q 8 (.q 9 (.q 10 .nil))))))))))) (by kernel_rfl) (by kernel_rfl) (by kernel_rfl) (hS.out _ HR.out.drew) ?_
                    repeat (first | (refine ordt_s (o := ?_) ?_ ?_ ?_; rotate_left 1; (focus ((simp only [List.getElem?_toArray, List.getElem?_cons_succ, List.getElem?_cons_zero]) <;> rfl)); (focus rfl); simp only [Act.put, List.setIfInBounds_toArray, List.set_cons_zero, List.set_cons_succ]) | (refine ordt_q (o := ?_) (v := ?_) ?_ ?_ ?_ ?_; rotate_left 2; (focus ((simp only [List.getElem?_toArray, List.getElem?_cons_succ, List.getElem?_cons_zero]) <;> rfl)); (focus rfl); (focus (intro w' hS; (try dsimp only at hS); go_split_ands; go_simp; (try (with_reducible rfl)))); simp only [Act.put, List.setIfInBounds_toArray, List.set_cons_zero, List.set_cons_succ]))
                    refine ordt_nil ?_
                    go_wp2_with fail
                    go_roundw
                    case rel => exact ⟨j + 1, by omega, by go_num, HR.out.drew⟩
                    case measure => simp [intOf]; omega
                  · have hbt : b = false := by
                      cases hb0 : b
                      · rfl
                      · exact absurd (HSM.out.2 (HBB.out.1 hb0)) e
                    subst hbt
                    have hne : ((f : Int) == g) = false := beq_eq_false_iff_ne.2 e
                    refine wp_region_T (fun w' => w'.cell? ⟨lb, lo + k, none⟩ = some (.int .i64 f) ∧ w'.cell? ⟨lb, lo + j, none⟩ = some (.int .i64 g)) (.q 0 (.q 1 (.q 2 (.q 3 (.q 4 (.q 5 (.q 6 (.q 7 (.q 8 (.q 9 (.q 10 .nil))))))))))) (by kernel_rfl) (by kernel_rfl) (by kernel_rfl) (hS.out _ HR.out.drew) ?_
                    repeat (first | (refine ordt_s (o := ?_) ?_ ?_ ?_; rotate_left 1; (focus ((simp only [List.getElem?_toArray, List.getElem?_cons_succ, List.getElem?_cons_zero]) <;> rfl)); (focus rfl); simp only [Act.put, List.setIfInBounds_toArray, List.set_cons_zero, List.set_cons_succ]) | (refine ordt_q (o := ?_) (v := ?_) ?_ ?_ ?_ ?_; rotate_left 2; (focus ((simp only [List.getElem?_toArray, List.getElem?_cons_succ, List.getElem?_cons_zero]) <;> rfl)); (focus rfl); (focus (intro w' hS; (try dsimp only at hS); go_split_ands; go_simp; (try (with_reducible rfl)))); simp only [Act.put, List.setIfInBounds_toArray, List.set_cons_zero, List.set_cons_succ]))
                    refine ordt_nil ?_
                    go_wp2_with fail
                    go_roundw
                    case rel => exact ⟨j + 1, by omega, by go_num, HR.out.drew⟩
                    case measure => simp [intOf]; omega
            · obtain rfl : j = k := by omega
              go_wp2_with fail
              go_roundw
              case rel => exact ⟨j + 1, by omega, by go_num, HR.out⟩
              case measure => simp [intOf]; omega
        · obtain rfl : k = N := by omega
          have cb := (HC.out _ HR.out).cb
          have hwq := HWP.out.2
          go_wp2_with fail
          go_ret
          exact ⟨rfl, HW.out.trans ((H5.out.2.trans (HR.out.mono H5.out.2.size)).mono HW.out.size)⟩
  · clear hs hr
    go_enter Try.func4, Try.ntmps4
    go_wp2_with fail
    go_ret
    exact ⟨rfl, Below.refl _ _⟩

end Go.Proofs.Ytaboipnigeaopaa
