import Derived.Test.YtbcolcchchgldaaZZ61EL
import Derived.Test.YtbcolcchchgldaaZZ61EN
import Derived.Test.YtbcolcchchgldaaZZ61EH
import Derived.Test.YtbcolcchchgldaaZZ61DT
namespace Go.Proofs.Ytbcolcchchgldaa
set_option linter.unusedVariables false
set_option linter.unusedSimpArgs false
open Go.RowKit

/-! Part of the proof of one law. -/

theorem outS_mem {c : Cir} : ∀ (rows : List (List Bool)) (S : List Bool), ∀ r ∈ outS c S rows, r.length = c.outs.length
  | [], _, r, h => by cases h
  | J :: rs, S, r, h => by
    rcases List.mem_cons.1 h with rfl | h
    · simp [simQ]
    · exact outS_mem rs _ r h

theorem rowsX_mem {ni : Nat} {xs : List Int} : ∀ r ∈ rowsX ni xs, r.length = ni := fun r h => by
  obtain ⟨x, _, rfl⟩ := List.mem_map.1 h
  exact bitsV_length x ni

theorem SlB.take {w : World} {s : Option Addr} {rows : List (List Bool)} (h : SlB w s rows) (n : Nat) : SlB w s (rows.take n) := by
  obtain ⟨vs, hv, hs, hrow⟩ := h
  refine ⟨vs.take n, by simp [hv], ?_, fun i r hr => ?_⟩
  · rcases hs with e | ⟨b, off, e, h2⟩
    · exact .inl (by rw [e]; simp)
    · exact .inr ⟨b, off, e, fun i v hi => h2 i v (by rw [List.getElem?_take] at hi; split at hi; exact hi; cases hi)⟩
  · rw [List.getElem?_take] at hr
    split at hr
    · next hlt =>
      obtain ⟨si, ci, e1, e2⟩ := hrow i r hr
      exact ⟨si, ci, by rw [List.getElem?_take, if_pos hlt]; exact e1, e2⟩
    · cases hr

theorem own_cap' {w : World} {base : Nat} {e : TypeId} {size : Nat} {s : Option Addr} {n c : Nat} {xs : List Value} (h : w.ownsRow base e size (.slice s n c) n xs) : n ≤ c := by
  rcases h.2 with ⟨e, _⟩ | ⟨g, cap, cur, e, _, _, h1, h2, _⟩
  · simp only [Value.slice.injEq] at e
    omega
  · simp only [Value.slice.injEq] at e
    omega

/-- Simulate, its rows counted by a letter. -/
theorem SimV (sn sg so s : Option Addr) (cn cg co cap ni m nn ng no : Nat) (c : Cir) (rows : List (List Bool)) (w : World) (hi : c.inp = ni) (e1 : c.next.length = nn) (e2 : c.gates.length = ng) (e3 : c.outs.length = no)
    (hC : CirV w (.agg #[.int .i64 ni, .slice sn nn cn, .slice sg ng cg, .slice so no co]) c) (hs : SlB w s rows) (hv : c.valid) (hm : rows.length = m) (hl : m ≤ 40) (hr : ∀ r ∈ rows, r.length = ni) :
    Calls Try.prog 27 #[.agg #[.int .i64 ni, .slice sn nn cn, .slice sg ng cg, .slice so no co], .slice s m cap] w fun e w' => ∃ so' co', e = .returned (.slice so' m co') ∧ SlB w' so' (outS c (List.replicate c.next.length false) rows) ∧ m ≤ co' ∧ Below w.heap.size w w' := by
  subst e1 e2 e3 hm
  have hC2 : CirV w (.agg #[.int .i64 c.inp, .slice sn c.next.length cn, .slice sg c.gates.length cg, .slice so c.outs.length co]) c := by rw [hi]; exact hC
  obtain ⟨_, _, _, _, _, _, e, g1, g2, g3, -⟩ := id hC2
  cases e
  refine (Simulate_i sn sg so s cn cg co cap ni c rows w hi hC g1 g2 g3 hs hv hl hr).mono ?_
  rintro e w' ⟨so', co', vs, rfl, hO, hq⟩
  have hl2 : (outS c (List.replicate c.next.length false) rows).length = rows.length := outS_length _ _ _
  refine ⟨so', co', rfl, hO.slb' hl2, ?_, hq⟩
  have h := hO.out
  rw [hl2] at h
  exact own_cap' h

theorem SimManyV (sn sg so s : Option Addr) (cn cg co cap ni m nn ng no : Nat) (c : Cir) (w : World) (e1 : c.next.length = nn) (e2 : c.gates.length = ng) (e3 : c.outs.length = no)
    (hC : CirV w (.agg #[.int .i64 ni, .slice sn nn cn, .slice sg ng cg, .slice so no co]) c) (hv : c.valid) (hl : 40 < m) :
    Calls Try.prog 27 #[.agg #[.int .i64 ni, .slice sn nn cn, .slice sg ng cg, .slice so no co], .slice s m cap] w fun e w' => e = .returned (.slice none 0 0) ∧ Below w.heap.size w w' := by
  subst e1 e2 e3
  exact SimulateMany_i sn sg so s cn cg co cap ni m c w hC hv hl

theorem LenD_inn {a b : Cir} {e : En} {es : List En} {k : Nat} (h : LenD es) (hk : es[k]? = some e) : ∀ m, LenD (innD a b e es m)
  | 0 => h
  | m + 1 => by
    rw [innD_succ]
    unfold addD
    split
    · exact LenD_inn h hk m
    · exact (LenD_inn h hk m).add (innD_get hk m) _ _

theorem outD_len {a b : Cir} {M : Nat} : ∀ (f k : Nat) (es : List En), goodD (2 ^ a.next.length) (2 ^ b.next.length) es → LenD es → ∀ r, outD a b M f k es = some r → r.length ≤ 2 ^ a.next.length * 2 ^ b.next.length
  | 0, k, es, _, _, r, h => by cases h
  | f + 1, k, es, hg, hl, r, h => by
    unfold outD at h
    cases hk : es[k]? with
    | none => rw [hk] at h; cases h
    | some e =>
      rw [hk] at h
      simp only at h
      split at h
      · next x hx =>
        simp only [Option.some.injEq] at h
        have h1 := hl k e hk
        have h2 := (List.getElem?_eq_some_iff.1 hk).1
        have h3 := goodD_len hg
        rw [← h, List.length_append]
        simp only [List.length_cons, List.length_nil]
        omega
      · exact outD_len f (k + 1) _ (goodD_inn hg M) (LenD_inn hl hk M) r h

theorem disR_len {a b : Cir} {r : List Int} (hc : cmpB a b = true) (ha : a.valid) (hb : b.valid) (h : disR a b = some r) : r.length ≤ 1000 := by
  rw [disR_yes hc] at h
  have h1 := outD_len _ _ _ (goodD_start a b) (LenD.start _) r h
  have h2 : 2 ^ a.next.length ≤ 2 ^ 3 := Nat.pow_le_pow_right (by omega) ha.lim.2.2.1
  have h3 : 2 ^ b.next.length ≤ 2 ^ 3 := Nat.pow_le_pow_right (by omega) hb.lim.2.2.1
  have h4 := Nat.mul_le_mul h2 h3
  omega

set_option maxRecDepth 100000 in
set_option maxHeartbeats 6400000 in
theorem FnDistinguish_any (s : Option Addr) (cap : Nat) (xs : List Int) (sm : Option Addr) (capm : Nat) (ms : List Int) (w : World) (hs : Sl w s (u8s xs)) (hl : xs.length ≤ 9223372036854775807) (hcap : xs.length ≤ cap) (hcap2 : cap ≤ 9223372036854775807) (hr : ∀ x ∈ xs, 0 ≤ x ∧ x ≤ 255)
    (hsm : Sl w sm (u8s ms)) (hlm : ms.length ≤ 9223372036854775807) (hcapm : ms.length ≤ capm) (hcapm2 : capm ≤ 9223372036854775807) (hrm : ∀ x ∈ ms, 0 ≤ x ∧ x ≤ 255) :
    Calls Try.prog 10 #[.slice s xs.length cap, .slice sm ms.length capm] w fun e w' => e = .returned (.bool true) ∧ Below w.heap.size w w' := by
  by_cases hc : xs.length ≤ 1048576
  · by_cases hm : ms.length ≤ 1048576
    · have HD := Lib.hid (DrawDistinguish_any s cap xs w hs hc hcap hcap2 hr)
      have HM := Lib.hid (And.intro hsm hrm)
      clear hs hr hsm hrm
      go_enter Try.func10, Try.ntmps10
      go_upto_region 4 with (go_at_call 52; (with_reducible refine HD.out.mono ?_); rintro e w1 ⟨A, B, vn, vg, vo, un, ug, uo, rfl, h0, h1, h4⟩; obtain ⟨sn, cn, rfl⟩ := own_shape h0.n; obtain ⟨sg, cg, rfl⟩ := own_shape h0.g; obtain ⟨so, co, rfl⟩ := own_shape h0.o; obtain ⟨tn, dn, rfl⟩ := own_shape h1.n; obtain ⟨tg, dg, rfl⟩ := own_shape h1.g; obtain ⟨to_, do_, rfl⟩ := own_shape h1.o; have H1 := Lib.hid (And.intro h0 (And.intro h1 h4)); clear h0 h1 h4)
      obtain ⟨X, hX⟩ : ∃ X, X = w1.heap.size := ⟨_, rfl⟩
      cases hva : A.validB
      · have HNIL : Hid (∀ r ∈ ([] : List (List Bool)), r.length = 0) := fun r h => (by cases h)
        have hdr := disR_no (show cmpB A B = false by simp [cmpB, hva])
        have HRR := Lib.hid hdr
        have HV := Lib.hid (And.intro hva trivial)
        clear hdr hva
        obtain ⟨W1, hW1⟩ : ∃ W1, W1 = (w1.alloc (.cells #[.int .i64 A.inp, .slice sn A.next.length cn, .slice sg A.gates.length cg, .slice so A.outs.length co] 26)).alloc (.cells #[.int .i64 B.inp, .slice tn B.next.length dn, .slice tg B.gates.length dg, .slice to_ B.outs.length do_] 26) := ⟨_, rfl⟩
        have hb1 : Below w1.heap.size w1 W1 := by rw [hW1]; go_grown
        have y1 : CirV W1 (.agg #[.int .i64 A.inp, .slice sn A.next.length cn, .slice sg A.gates.length cg, .slice so A.outs.length co]) A := by
          have h := own_cv (own_cbelow H1.out.1 hb1)
          exact h
        have y2 : CirV W1 (.agg #[.int .i64 B.inp, .slice tn B.next.length dn, .slice tg B.gates.length dg, .slice to_ B.outs.length do_]) B := by
          have h := own_cv (own_cbelow H1.out.2.1 hb1)
          exact h
        have y3 : W1.heap[X]? = some (.cells #[.int .i64 A.inp, .slice sn A.next.length cn, .slice sg A.gates.length cg, .slice so A.outs.length co] 26 (0, 0)) := by rw [hW1, hX]; exact blk_old (blk_new _ _)
        have y4 : W1.heap[X + 1]? = some (.cells #[.int .i64 B.inp, .slice tn B.next.length dn, .slice tg B.gates.length dg, .slice to_ B.outs.length do_] 26 (0, 0)) := by rw [hW1, hX]; exact blk_at (by simp)
        have y5 := H1.out.2.2.trans (hb1.mono H1.out.2.2.size)
        have HC : Hid (∀ W, Below W1.heap.size W1 W → CirV W (.agg #[.int .i64 A.inp, .slice sn A.next.length cn, .slice sg A.gates.length cg, .slice so A.outs.length co]) A ∧ CirV W (.agg #[.int .i64 B.inp, .slice tn B.next.length dn, .slice tg B.gates.length dg, .slice to_ B.outs.length do_]) B ∧ ((∀ o, W.cell? ⟨X, o, none⟩ = #[Value.int .i64 A.inp, .slice sn A.next.length cn, .slice sg A.gates.length cg, .slice so A.outs.length co][o]?) ∧ (∀ o, W.cell? ⟨X + 1, o, none⟩ = #[Value.int .i64 B.inp, .slice tn B.next.length dn, .slice tg B.gates.length dg, .slice to_ B.outs.length do_][o]?)) ∧ Below w.heap.size w W ∧ W1.heap.size ≤ W.heap.size) := fun W hW =>
          ⟨y1.mono hW, y2.mono hW, ⟨(blk_all (blk_below hW (blk_lt y3) y3)).1, (blk_all (blk_below hW (blk_lt y4) y4)).1⟩, y5.trans (hW.mono y5.size), hW.size⟩
        rw [← hW1, ← hX]
        clear hW1 hX hb1 y1 y2 y3 y4 y5 H1 HD
        obtain ⟨ca, cb⟩ := (HC.out _ (Below.refl _ _)).2.2.1
        have HDI : Hid (∀ W, Below W1.heap.size W1 W → Calls Try.prog 48 #[.agg #[.int .i64 A.inp, .slice sn A.next.length cn, .slice sg A.gates.length cg, .slice so A.outs.length co], .agg #[.int .i64 B.inp, .slice tn B.next.length dn, .slice tg B.gates.length dg, .slice to_ B.outs.length do_]] W fun e w' => ∃ s1 c1, e = .returned (.agg #[.bool false, .slice s1 0 c1]) ∧ SlB w' s1 ([] : List (List Bool)) ∧ Below W.heap.size W w') := fun W hW => by
          refine (Distinguish_i _ _ A B W (HC.out _ hW).1 (HC.out _ hW).2.1).mono ?_
          rintro e w' ⟨s1, c1, vs, rfl, hO, hq⟩
          have hO := hO.slb
          rw [HRR.out] at hO ⊢
          exact ⟨s1, c1, rfl, hO, hq⟩
        have HDS : Hid (∀ W, Below W1.heap.size W1 W → Calls Try.prog 47 #[.agg #[.int .i64 A.inp, .slice sn A.next.length cn, .slice sg A.gates.length cg, .slice so A.outs.length co], .agg #[.int .i64 B.inp, .slice tn B.next.length dn, .slice tg B.gates.length dg, .slice to_ B.outs.length do_]] W fun e w' => ∃ s1 c1, e = .returned (.agg #[.bool false, .slice s1 0 c1]) ∧ SlB w' s1 ([] : List (List Bool)) ∧ Below W.heap.size W w') := fun W hW => by
          refine (Distinguish_s _ _ A B W (HC.out _ hW).1 (HC.out _ hW).2.1).mono ?_
          rintro e w' ⟨s1, c1, rfl, hO, hq⟩
          rw [HRR.out] at hO ⊢
          exact ⟨s1, c1, rfl, hO, hq⟩
        go_upto_region 5 with (go_at_call 48; (with_reducible refine (HDI.out _ (Below.refl _ _)).mono ?_); rintro e w2 ⟨s1, c1, rfl, hO, hq⟩; have H2 := Lib.hid (And.intro hO hq); clear hO hq ca cb)
        obtain ⟨D, hD⟩ : ∃ D, D = w2.heap.size := ⟨_, rfl⟩
        obtain ⟨W2, hW2⟩ : ∃ W2, W2 = w2.alloc (.cells #[.bool false, .slice s1 0 c1] 60) := ⟨_, rfl⟩
        have hb2 : Below w2.heap.size w2 W2 := by rw [hW2]; go_grown
        have x3 : W2.heap[D]? = some (.cells #[.bool false, .slice s1 0 c1] 60 (0, 0)) := by rw [hW2, hD]; exact blk_new _ _
        have x2 := H2.out.1.mono hb2
        have HX : Hid (∀ W, Below W2.heap.size W2 W → Below W1.heap.size W1 W ∧ (∀ o, W.cell? ⟨D, o, none⟩ = #[Value.bool false, .slice s1 0 c1][o]?) ∧ SlB W s1 ([] : List (List Bool)) ∧ W2.heap.size ≤ W.heap.size) := fun W hW =>
          ⟨(H2.out.2.trans (hb2.mono H2.out.2.size)).trans (hW.mono (Nat.le_trans H2.out.2.size hb2.size)), (blk_all (blk_below hW (blk_lt x3) x3)).1, x2.mono hW, hW.size⟩
        rw [← hW2, ← hD]
        clear hW2 hD hb2 x3 x2 H2
        obtain ⟨ca, cb⟩ := (HC.out _ (HX.out _ (Below.refl _ _)).1).2.2.1
        go_upto_region 6 with (go_at_call 47; (with_reducible refine (HDS.out _ (HX.out _ (Below.refl _ _)).1).mono ?_); rintro e w3 ⟨s2, c2, rfl, hO, hq⟩; have H3 := Lib.hid (And.intro hO hq); clear hO hq ca cb)
        obtain ⟨E, hE⟩ : ∃ E, E = w3.heap.size := ⟨_, rfl⟩
        obtain ⟨W3, hW3⟩ : ∃ W3, W3 = w3.alloc (.cells #[.bool false, .slice s2 0 c2] 60) := ⟨_, rfl⟩
        have hb3 : Below w3.heap.size w3 W3 := by rw [hW3]; go_grown
        have x3 : W3.heap[E]? = some (.cells #[.bool false, .slice s2 0 c2] 60 (0, 0)) := by rw [hW3, hE]; exact blk_new _ _
        have x2 := H3.out.1.mono hb3
        have HY : Hid (∀ W, Below W3.heap.size W3 W → Below W2.heap.size W2 W ∧ (∀ o, W.cell? ⟨E, o, none⟩ = #[Value.bool false, .slice s2 0 c2][o]?) ∧ SlB W s2 ([] : List (List Bool))) := fun W hW =>
          ⟨(H3.out.2.trans (hb3.mono H3.out.2.size)).trans (hW.mono (Nat.le_trans H3.out.2.size hb3.size)), (blk_all (blk_below hW (blk_lt x3) x3)).1, x2.mono hW⟩
        rw [← hW3, ← hE]
        clear hW3 hE hb3 x3 x2 H3 HDI HDS
        have cd := (HX.out _ (HY.out _ (Below.refl _ _)).1).2.1
        have ce := (HY.out _ (Below.refl _ _)).2.1
        go_upto_region 8 with (go_at_call 53; (go_loud (with_reducible refine (sameRows_any s1 s2 ([] : List (List Bool)) ([] : List (List Bool)) 0 _ _ 0 _ (HX.out _ (HY.out _ (Below.refl _ _)).1).2.2.1 (HY.out _ (Below.refl _ _)).2.2 rfl rfl (by omega) HNIL.out HNIL.out (by omega)).mono ?_); rintro e w4 ⟨rfl, hq⟩; rw [decide_eq_true (rfl : ([] : List (List Bool)) = ([] : List (List Bool)))]; have H4 := Lib.hid (hq.below W3.heap.size); clear hq))
        clear cd ce
        have HX : Hid (∀ W, Below W3.heap.size W3 W → Below W1.heap.size W1 W ∧ (∀ o, W.cell? ⟨D, o, none⟩ = #[Value.bool false, .slice s1 0 c1][o]?) ∧ SlB W s1 ([] : List (List Bool))) := fun W hW => ⟨(HX.out _ (HY.out _ hW).1).1, (HX.out _ (HY.out _ hW).1).2.1, (HX.out _ (HY.out _ hW).1).2.2.1⟩
        have H1 := H4
        obtain ⟨ca, cb⟩ := (HC.out _ (HX.out _ H1.out).1).2.2.1
        go_upto_region 9 with (first
          | (go_at_call 42; (with_reducible refine (CircuitValid_s _ A _ (HC.out _ (HX.out _ H1.out).1).1).mono ?_); rintro e w5 ⟨rfl, hq⟩; rw [HV.out.1]; have H1 := Lib.hid (H1.out.trans (hq.mono H1.out.size)); clear hq ca cb; obtain ⟨ca, cb⟩ := (HC.out _ (HX.out _ H1.out).1).2.2.1)
          | (go_at_call 42; (with_reducible refine (CircuitValid_s _ B _ (HC.out _ (HX.out _ H1.out).1).2.1).mono ?_); rintro e w6 ⟨rfl, hq⟩; rw [HV.out.2]; have H1 := Lib.hid (H1.out.trans (hq.mono H1.out.size)); clear hq ca cb; obtain ⟨ca, cb⟩ := (HC.out _ (HX.out _ H1.out).1).2.2.1))
        clear ca cb
        have cd := (HX.out _ H1.out).2.1
        go_wp2_with (go_at_call 20; (with_reducible refine (aliveR_any _).mono ?_); rintro e w7 ⟨rfl, hq⟩; have H1 := Lib.hid (H1.out.trans (hq.mono H1.out.size)); clear hq cd)
        go_ret
        exact ⟨rfl, (HC.out _ (HX.out _ H1.out).1).2.2.2.1⟩
      · cases hvb : B.validB
        · have HNIL : Hid (∀ r ∈ ([] : List (List Bool)), r.length = 0) := fun r h => (by cases h)
          have hdr := disR_no (show cmpB A B = false by simp [cmpB, hvb])
          have HRR := Lib.hid hdr
          have HV := Lib.hid (And.intro hva hvb)
          clear hdr hva hvb
          obtain ⟨W1, hW1⟩ : ∃ W1, W1 = (w1.alloc (.cells #[.int .i64 A.inp, .slice sn A.next.length cn, .slice sg A.gates.length cg, .slice so A.outs.length co] 26)).alloc (.cells #[.int .i64 B.inp, .slice tn B.next.length dn, .slice tg B.gates.length dg, .slice to_ B.outs.length do_] 26) := ⟨_, rfl⟩
          have hb1 : Below w1.heap.size w1 W1 := by rw [hW1]; go_grown
          have y1 : CirV W1 (.agg #[.int .i64 A.inp, .slice sn A.next.length cn, .slice sg A.gates.length cg, .slice so A.outs.length co]) A := by
            have h := own_cv (own_cbelow H1.out.1 hb1)
            exact h
          have y2 : CirV W1 (.agg #[.int .i64 B.inp, .slice tn B.next.length dn, .slice tg B.gates.length dg, .slice to_ B.outs.length do_]) B := by
            have h := own_cv (own_cbelow H1.out.2.1 hb1)
            exact h
          have y3 : W1.heap[X]? = some (.cells #[.int .i64 A.inp, .slice sn A.next.length cn, .slice sg A.gates.length cg, .slice so A.outs.length co] 26 (0, 0)) := by rw [hW1, hX]; exact blk_old (blk_new _ _)
          have y4 : W1.heap[X + 1]? = some (.cells #[.int .i64 B.inp, .slice tn B.next.length dn, .slice tg B.gates.length dg, .slice to_ B.outs.length do_] 26 (0, 0)) := by rw [hW1, hX]; exact blk_at (by simp)
          have y5 := H1.out.2.2.trans (hb1.mono H1.out.2.2.size)
          have HC : Hid (∀ W, Below W1.heap.size W1 W → CirV W (.agg #[.int .i64 A.inp, .slice sn A.next.length cn, .slice sg A.gates.length cg, .slice so A.outs.length co]) A ∧ CirV W (.agg #[.int .i64 B.inp, .slice tn B.next.length dn, .slice tg B.gates.length dg, .slice to_ B.outs.length do_]) B ∧ ((∀ o, W.cell? ⟨X, o, none⟩ = #[Value.int .i64 A.inp, .slice sn A.next.length cn, .slice sg A.gates.length cg, .slice so A.outs.length co][o]?) ∧ (∀ o, W.cell? ⟨X + 1, o, none⟩ = #[Value.int .i64 B.inp, .slice tn B.next.length dn, .slice tg B.gates.length dg, .slice to_ B.outs.length do_][o]?)) ∧ Below w.heap.size w W ∧ W1.heap.size ≤ W.heap.size) := fun W hW =>
            ⟨y1.mono hW, y2.mono hW, ⟨(blk_all (blk_below hW (blk_lt y3) y3)).1, (blk_all (blk_below hW (blk_lt y4) y4)).1⟩, y5.trans (hW.mono y5.size), hW.size⟩
          rw [← hW1, ← hX]
          clear hW1 hX hb1 y1 y2 y3 y4 y5 H1 HD
          obtain ⟨ca, cb⟩ := (HC.out _ (Below.refl _ _)).2.2.1
          have HDI : Hid (∀ W, Below W1.heap.size W1 W → Calls Try.prog 48 #[.agg #[.int .i64 A.inp, .slice sn A.next.length cn, .slice sg A.gates.length cg, .slice so A.outs.length co], .agg #[.int .i64 B.inp, .slice tn B.next.length dn, .slice tg B.gates.length dg, .slice to_ B.outs.length do_]] W fun e w' => ∃ s1 c1, e = .returned (.agg #[.bool false, .slice s1 0 c1]) ∧ SlB w' s1 ([] : List (List Bool)) ∧ Below W.heap.size W w') := fun W hW => by
            refine (Distinguish_i _ _ A B W (HC.out _ hW).1 (HC.out _ hW).2.1).mono ?_
            rintro e w' ⟨s1, c1, vs, rfl, hO, hq⟩
            have hO := hO.slb
            rw [HRR.out] at hO ⊢
            exact ⟨s1, c1, rfl, hO, hq⟩
          have HDS : Hid (∀ W, Below W1.heap.size W1 W → Calls Try.prog 47 #[.agg #[.int .i64 A.inp, .slice sn A.next.length cn, .slice sg A.gates.length cg, .slice so A.outs.length co], .agg #[.int .i64 B.inp, .slice tn B.next.length dn, .slice tg B.gates.length dg, .slice to_ B.outs.length do_]] W fun e w' => ∃ s1 c1, e = .returned (.agg #[.bool false, .slice s1 0 c1]) ∧ SlB w' s1 ([] : List (List Bool)) ∧ Below W.heap.size W w') := fun W hW => by
            refine (Distinguish_s _ _ A B W (HC.out _ hW).1 (HC.out _ hW).2.1).mono ?_
            rintro e w' ⟨s1, c1, rfl, hO, hq⟩
            rw [HRR.out] at hO ⊢
            exact ⟨s1, c1, rfl, hO, hq⟩
          go_upto_region 5 with (go_at_call 48; (with_reducible refine (HDI.out _ (Below.refl _ _)).mono ?_); rintro e w2 ⟨s1, c1, rfl, hO, hq⟩; have H2 := Lib.hid (And.intro hO hq); clear hO hq ca cb)
          obtain ⟨D, hD⟩ : ∃ D, D = w2.heap.size := ⟨_, rfl⟩
          obtain ⟨W2, hW2⟩ : ∃ W2, W2 = w2.alloc (.cells #[.bool false, .slice s1 0 c1] 60) := ⟨_, rfl⟩
          have hb2 : Below w2.heap.size w2 W2 := by rw [hW2]; go_grown
          have x3 : W2.heap[D]? = some (.cells #[.bool false, .slice s1 0 c1] 60 (0, 0)) := by rw [hW2, hD]; exact blk_new _ _
          have x2 := H2.out.1.mono hb2
          have HX : Hid (∀ W, Below W2.heap.size W2 W → Below W1.heap.size W1 W ∧ (∀ o, W.cell? ⟨D, o, none⟩ = #[Value.bool false, .slice s1 0 c1][o]?) ∧ SlB W s1 ([] : List (List Bool)) ∧ W2.heap.size ≤ W.heap.size) := fun W hW =>
            ⟨(H2.out.2.trans (hb2.mono H2.out.2.size)).trans (hW.mono (Nat.le_trans H2.out.2.size hb2.size)), (blk_all (blk_below hW (blk_lt x3) x3)).1, x2.mono hW, hW.size⟩
          rw [← hW2, ← hD]
          clear hW2 hD hb2 x3 x2 H2
          obtain ⟨ca, cb⟩ := (HC.out _ (HX.out _ (Below.refl _ _)).1).2.2.1
          go_upto_region 6 with (go_at_call 47; (with_reducible refine (HDS.out _ (HX.out _ (Below.refl _ _)).1).mono ?_); rintro e w3 ⟨s2, c2, rfl, hO, hq⟩; have H3 := Lib.hid (And.intro hO hq); clear hO hq ca cb)
          obtain ⟨E, hE⟩ : ∃ E, E = w3.heap.size := ⟨_, rfl⟩
          obtain ⟨W3, hW3⟩ : ∃ W3, W3 = w3.alloc (.cells #[.bool false, .slice s2 0 c2] 60) := ⟨_, rfl⟩
          have hb3 : Below w3.heap.size w3 W3 := by rw [hW3]; go_grown
          have x3 : W3.heap[E]? = some (.cells #[.bool false, .slice s2 0 c2] 60 (0, 0)) := by rw [hW3, hE]; exact blk_new _ _
          have x2 := H3.out.1.mono hb3
          have HY : Hid (∀ W, Below W3.heap.size W3 W → Below W2.heap.size W2 W ∧ (∀ o, W.cell? ⟨E, o, none⟩ = #[Value.bool false, .slice s2 0 c2][o]?) ∧ SlB W s2 ([] : List (List Bool))) := fun W hW =>
            ⟨(H3.out.2.trans (hb3.mono H3.out.2.size)).trans (hW.mono (Nat.le_trans H3.out.2.size hb3.size)), (blk_all (blk_below hW (blk_lt x3) x3)).1, x2.mono hW⟩
          rw [← hW3, ← hE]
          clear hW3 hE hb3 x3 x2 H3 HDI HDS
          have cd := (HX.out _ (HY.out _ (Below.refl _ _)).1).2.1
          have ce := (HY.out _ (Below.refl _ _)).2.1
          go_upto_region 8 with (go_at_call 53; (go_loud (with_reducible refine (sameRows_any s1 s2 ([] : List (List Bool)) ([] : List (List Bool)) 0 _ _ 0 _ (HX.out _ (HY.out _ (Below.refl _ _)).1).2.2.1 (HY.out _ (Below.refl _ _)).2.2 rfl rfl (by omega) HNIL.out HNIL.out (by omega)).mono ?_); rintro e w4 ⟨rfl, hq⟩; rw [decide_eq_true (rfl : ([] : List (List Bool)) = ([] : List (List Bool)))]; have H4 := Lib.hid (hq.below W3.heap.size); clear hq))
          clear cd ce
          have HX : Hid (∀ W, Below W3.heap.size W3 W → Below W1.heap.size W1 W ∧ (∀ o, W.cell? ⟨D, o, none⟩ = #[Value.bool false, .slice s1 0 c1][o]?) ∧ SlB W s1 ([] : List (List Bool))) := fun W hW => ⟨(HX.out _ (HY.out _ hW).1).1, (HX.out _ (HY.out _ hW).1).2.1, (HX.out _ (HY.out _ hW).1).2.2.1⟩
          have H1 := H4
          obtain ⟨ca, cb⟩ := (HC.out _ (HX.out _ H1.out).1).2.2.1
          go_upto_region 9 with (first
            | (go_at_call 42; (with_reducible refine (CircuitValid_s _ A _ (HC.out _ (HX.out _ H1.out).1).1).mono ?_); rintro e w5 ⟨rfl, hq⟩; rw [HV.out.1]; have H1 := Lib.hid (H1.out.trans (hq.mono H1.out.size)); clear hq ca cb; obtain ⟨ca, cb⟩ := (HC.out _ (HX.out _ H1.out).1).2.2.1)
            | (go_at_call 42; (with_reducible refine (CircuitValid_s _ B _ (HC.out _ (HX.out _ H1.out).1).2.1).mono ?_); rintro e w6 ⟨rfl, hq⟩; rw [HV.out.2]; have H1 := Lib.hid (H1.out.trans (hq.mono H1.out.size)); clear hq ca cb; obtain ⟨ca, cb⟩ := (HC.out _ (HX.out _ H1.out).1).2.2.1))
          clear ca cb
          have cd := (HX.out _ H1.out).2.1
          go_wp2_with (go_at_call 20; (with_reducible refine (aliveR_any _).mono ?_); rintro e w7 ⟨rfl, hq⟩; have H1 := Lib.hid (H1.out.trans (hq.mono H1.out.size)); clear hq cd)
          go_ret
          exact ⟨rfl, (HC.out _ (HX.out _ H1.out).1).2.2.2.1⟩
        · by_cases e1 : A.inp = B.inp
          · by_cases e3 : A.outs.length = B.outs.length
            · have hva2 := A.validB_iff.1 hva
              have hvb2 := B.validB_iff.1 hvb
              obtain ⟨ni, hni⟩ : ∃ ni : Nat, A.inp = ni := ⟨A.inp.toNat, by have := hva2.lim.1; omega⟩
              have n4 : ni ≤ 4 := by have := hva2.lim.2.1; omega
              have o3 : A.outs.length ≤ 100 := by have := hva2.lim.2.2.2.2; omega
              have hcmp : cmpB A B = true := cmpB_iff.2 ⟨hva, hvb, e1, e3⟩
              rw [← e1, ← e3, hni]
              obtain ⟨W1, hW1⟩ : ∃ W1, W1 = (w1.alloc (.cells #[.int .i64 (ni : Int), .slice sn A.next.length cn, .slice sg A.gates.length cg, .slice so A.outs.length co] 26)).alloc (.cells #[.int .i64 (ni : Int), .slice tn B.next.length dn, .slice tg B.gates.length dg, .slice to_ A.outs.length do_] 26) := ⟨_, rfl⟩
              have hb1 : Below w1.heap.size w1 W1 := by rw [hW1]; go_grown
              have y1 : CirV W1 (.agg #[.int .i64 (ni : Int), .slice sn A.next.length cn, .slice sg A.gates.length cg, .slice so A.outs.length co]) A := by
                have h := own_cv (own_cbelow H1.out.1 hb1)
                rw [hni] at h; exact h
              have y2 : CirV W1 (.agg #[.int .i64 (ni : Int), .slice tn B.next.length dn, .slice tg B.gates.length dg, .slice to_ A.outs.length do_]) B := by
                have h := own_cv (own_cbelow H1.out.2.1 hb1)
                rw [← e1, ← e3, hni] at h; exact h
              have y3 : W1.heap[X]? = some (.cells #[.int .i64 (ni : Int), .slice sn A.next.length cn, .slice sg A.gates.length cg, .slice so A.outs.length co] 26 (0, 0)) := by rw [hW1, hX]; exact blk_old (blk_new _ _)
              have y4 : W1.heap[X + 1]? = some (.cells #[.int .i64 (ni : Int), .slice tn B.next.length dn, .slice tg B.gates.length dg, .slice to_ A.outs.length do_] 26 (0, 0)) := by rw [hW1, hX]; exact blk_at (by simp)
              have y5 := H1.out.2.2.trans (hb1.mono H1.out.2.2.size)
              have HC : Hid (∀ W, Below W1.heap.size W1 W → CirV W (.agg #[.int .i64 (ni : Int), .slice sn A.next.length cn, .slice sg A.gates.length cg, .slice so A.outs.length co]) A ∧ CirV W (.agg #[.int .i64 (ni : Int), .slice tn B.next.length dn, .slice tg B.gates.length dg, .slice to_ A.outs.length do_]) B ∧ ((∀ o, W.cell? ⟨X, o, none⟩ = #[Value.int .i64 (ni : Int), .slice sn A.next.length cn, .slice sg A.gates.length cg, .slice so A.outs.length co][o]?) ∧ (∀ o, W.cell? ⟨X + 1, o, none⟩ = #[Value.int .i64 (ni : Int), .slice tn B.next.length dn, .slice tg B.gates.length dg, .slice to_ A.outs.length do_][o]?)) ∧ Below w.heap.size w W ∧ W1.heap.size ≤ W.heap.size) := fun W hW =>
                ⟨y1.mono hW, y2.mono hW, ⟨(blk_all (blk_below hW (blk_lt y3) y3)).1, (blk_all (blk_below hW (blk_lt y4) y4)).1⟩, y5.trans (hW.mono y5.size), hW.size⟩
              rw [← hW1, ← hX]
              clear hW1 hX hb1 y1 y2 y3 y4 y5 H1 HD
              obtain ⟨ca, cb⟩ := (HC.out _ (Below.refl _ _)).2.2.1
              have HN : Hid ((A.inp = ni ∧ B.inp = ni) ∧ A.outs.length = B.outs.length ∧ (A.valid ∧ B.valid) ∧ cmpB A B = true) := ⟨⟨hni, by rw [← e1]; exact hni⟩, e3, ⟨hva2, hvb2⟩, hcmp⟩
              have HV := Lib.hid (And.intro hva hvb)
              have HSA : Hid (∀ (W : World) (sr : Option Addr) (cr k : Nat) (rows : List (List Bool)), Below W1.heap.size W1 W → SlB W sr rows → rows.length = k → k ≤ 40 → (∀ r ∈ rows, r.length = ni) → Calls Try.prog 27 #[.agg #[.int .i64 (ni : Int), .slice sn A.next.length cn, .slice sg A.gates.length cg, .slice so A.outs.length co], .slice sr k cr] W fun e w' => ∃ so' co', e = .returned (.slice so' k co') ∧ SlB w' so' (outS A (List.replicate A.next.length false) rows) ∧ k ≤ co' ∧ Below W.heap.size W w') := fun W sr cr k rows hW hs hk hl hr =>
                SimV sn sg so sr cn cg co cr ni k _ _ _ A rows W HN.out.1.1 rfl rfl rfl (HC.out _ hW).1 hs HN.out.2.2.1.1 hk hl hr
              have HSB : Hid (∀ (W : World) (sr : Option Addr) (cr k : Nat) (rows : List (List Bool)), Below W1.heap.size W1 W → SlB W sr rows → rows.length = k → k ≤ 40 → (∀ r ∈ rows, r.length = ni) → Calls Try.prog 27 #[.agg #[.int .i64 (ni : Int), .slice tn B.next.length dn, .slice tg B.gates.length dg, .slice to_ A.outs.length do_], .slice sr k cr] W fun e w' => ∃ so' co', e = .returned (.slice so' k co') ∧ SlB w' so' (outS B (List.replicate B.next.length false) rows) ∧ k ≤ co' ∧ Below W.heap.size W w') := fun W sr cr k rows hW hs hk hl hr =>
                SimV tn tg to_ sr dn dg do_ cr ni k _ _ _ B rows W HN.out.1.2 rfl rfl HN.out.2.1.symm (HC.out _ hW).2.1 hs HN.out.2.2.1.2 hk hl hr
              have HMA : Hid (∀ (W : World) (sr : Option Addr) (cr k : Nat), Below W1.heap.size W1 W → 40 < k → Calls Try.prog 27 #[.agg #[.int .i64 (ni : Int), .slice sn A.next.length cn, .slice sg A.gates.length cg, .slice so A.outs.length co], .slice sr k cr] W fun e w' => e = .returned (.slice none 0 0) ∧ Below W.heap.size W w') := fun W sr cr k hW hl =>
                SimManyV sn sg so sr cn cg co cr ni k _ _ _ A W rfl rfl rfl (HC.out _ hW).1 HN.out.2.2.1.1 hl
              have HMB : Hid (∀ (W : World) (sr : Option Addr) (cr k : Nat), Below W1.heap.size W1 W → 40 < k → Calls Try.prog 27 #[.agg #[.int .i64 (ni : Int), .slice tn B.next.length dn, .slice tg B.gates.length dg, .slice to_ A.outs.length do_], .slice sr k cr] W fun e w' => e = .returned (.slice none 0 0) ∧ Below W.heap.size W w') := fun W sr cr k hW hl =>
                SimManyV tn tg to_ sr dn dg do_ cr ni k _ _ _ B W rfl rfl HN.out.2.1.symm (HC.out _ hW).2.1 HN.out.2.2.1.2 hl
              clear hva hvb e1 e3 hva2 hvb2 hni hcmp
              cases hdr : disR A B with
              | none =>
                have HNIL : Hid (∀ r ∈ ([] : List (List Bool)), r.length = 0) := fun r h => (by cases h)
                have HRR := Lib.hid hdr
                clear hdr
                have HDI : Hid (∀ W, Below W1.heap.size W1 W → Calls Try.prog 48 #[.agg #[.int .i64 (ni : Int), .slice sn A.next.length cn, .slice sg A.gates.length cg, .slice so A.outs.length co], .agg #[.int .i64 (ni : Int), .slice tn B.next.length dn, .slice tg B.gates.length dg, .slice to_ A.outs.length do_]] W fun e w' => ∃ s1 c1, e = .returned (.agg #[.bool false, .slice s1 0 c1]) ∧ SlB w' s1 ([] : List (List Bool)) ∧ Below W.heap.size W w') := fun W hW => by
                  refine (Distinguish_i _ _ A B W (HC.out _ hW).1 (HC.out _ hW).2.1).mono ?_
                  rintro e w' ⟨s1, c1, vs, rfl, hO, hq⟩
                  have hO := hO.slb
                  rw [HRR.out] at hO ⊢
                  exact ⟨s1, c1, rfl, hO, hq⟩
                have HDS : Hid (∀ W, Below W1.heap.size W1 W → Calls Try.prog 47 #[.agg #[.int .i64 (ni : Int), .slice sn A.next.length cn, .slice sg A.gates.length cg, .slice so A.outs.length co], .agg #[.int .i64 (ni : Int), .slice tn B.next.length dn, .slice tg B.gates.length dg, .slice to_ A.outs.length do_]] W fun e w' => ∃ s1 c1, e = .returned (.agg #[.bool false, .slice s1 0 c1]) ∧ SlB w' s1 ([] : List (List Bool)) ∧ Below W.heap.size W w') := fun W hW => by
                  refine (Distinguish_s _ _ A B W (HC.out _ hW).1 (HC.out _ hW).2.1).mono ?_
                  rintro e w' ⟨s1, c1, rfl, hO, hq⟩
                  rw [HRR.out] at hO ⊢
                  exact ⟨s1, c1, rfl, hO, hq⟩
                go_upto_region 5 with (go_at_call 48; (with_reducible refine (HDI.out _ (Below.refl _ _)).mono ?_); rintro e w2 ⟨s1, c1, rfl, hO, hq⟩; have H2 := Lib.hid (And.intro hO hq); clear hO hq ca cb)
                obtain ⟨D, hD⟩ : ∃ D, D = w2.heap.size := ⟨_, rfl⟩
                obtain ⟨W2, hW2⟩ : ∃ W2, W2 = w2.alloc (.cells #[.bool false, .slice s1 0 c1] 60) := ⟨_, rfl⟩
                have hb2 : Below w2.heap.size w2 W2 := by rw [hW2]; go_grown
                have x3 : W2.heap[D]? = some (.cells #[.bool false, .slice s1 0 c1] 60 (0, 0)) := by rw [hW2, hD]; exact blk_new _ _
                have x2 := H2.out.1.mono hb2
                have HX : Hid (∀ W, Below W2.heap.size W2 W → Below W1.heap.size W1 W ∧ (∀ o, W.cell? ⟨D, o, none⟩ = #[Value.bool false, .slice s1 0 c1][o]?) ∧ SlB W s1 ([] : List (List Bool)) ∧ W2.heap.size ≤ W.heap.size) := fun W hW =>
                  ⟨(H2.out.2.trans (hb2.mono H2.out.2.size)).trans (hW.mono (Nat.le_trans H2.out.2.size hb2.size)), (blk_all (blk_below hW (blk_lt x3) x3)).1, x2.mono hW, hW.size⟩
                rw [← hW2, ← hD]
                clear hW2 hD hb2 x3 x2 H2
                obtain ⟨ca, cb⟩ := (HC.out _ (HX.out _ (Below.refl _ _)).1).2.2.1
                go_upto_region 6 with (go_at_call 47; (with_reducible refine (HDS.out _ (HX.out _ (Below.refl _ _)).1).mono ?_); rintro e w3 ⟨s2, c2, rfl, hO, hq⟩; have H3 := Lib.hid (And.intro hO hq); clear hO hq ca cb)
                obtain ⟨E, hE⟩ : ∃ E, E = w3.heap.size := ⟨_, rfl⟩
                obtain ⟨W3, hW3⟩ : ∃ W3, W3 = w3.alloc (.cells #[.bool false, .slice s2 0 c2] 60) := ⟨_, rfl⟩
                have hb3 : Below w3.heap.size w3 W3 := by rw [hW3]; go_grown
                have x3 : W3.heap[E]? = some (.cells #[.bool false, .slice s2 0 c2] 60 (0, 0)) := by rw [hW3, hE]; exact blk_new _ _
                have x2 := H3.out.1.mono hb3
                have HY : Hid (∀ W, Below W3.heap.size W3 W → Below W2.heap.size W2 W ∧ (∀ o, W.cell? ⟨E, o, none⟩ = #[Value.bool false, .slice s2 0 c2][o]?) ∧ SlB W s2 ([] : List (List Bool))) := fun W hW =>
                  ⟨(H3.out.2.trans (hb3.mono H3.out.2.size)).trans (hW.mono (Nat.le_trans H3.out.2.size hb3.size)), (blk_all (blk_below hW (blk_lt x3) x3)).1, x2.mono hW⟩
                rw [← hW3, ← hE]
                clear hW3 hE hb3 x3 x2 H3 HDI HDS
                have cd := (HX.out _ (HY.out _ (Below.refl _ _)).1).2.1
                have ce := (HY.out _ (Below.refl _ _)).2.1
                go_upto_region 8 with (go_at_call 53; (go_loud (with_reducible refine (sameRows_any s1 s2 ([] : List (List Bool)) ([] : List (List Bool)) 0 _ _ 0 _ (HX.out _ (HY.out _ (Below.refl _ _)).1).2.2.1 (HY.out _ (Below.refl _ _)).2.2 rfl rfl (by omega) HNIL.out HNIL.out (by omega)).mono ?_); rintro e w4 ⟨rfl, hq⟩; rw [decide_eq_true (rfl : ([] : List (List Bool)) = ([] : List (List Bool)))]; have H4 := Lib.hid (hq.below W3.heap.size); clear hq))
                clear cd ce
                have HX : Hid (∀ W, Below W3.heap.size W3 W → Below W1.heap.size W1 W ∧ (∀ o, W.cell? ⟨D, o, none⟩ = #[Value.bool false, .slice s1 0 c1][o]?) ∧ SlB W s1 ([] : List (List Bool))) := fun W hW => ⟨(HX.out _ (HY.out _ hW).1).1, (HX.out _ (HY.out _ hW).1).2.1, (HX.out _ (HY.out _ hW).1).2.2.1⟩
                have H1 := H4
                obtain ⟨ca, cb⟩ := (HC.out _ (HX.out _ H1.out).1).2.2.1
                go_upto_region 10 with (first
                  | (go_at_call 42; (with_reducible refine (CircuitValid_s _ A _ (HC.out _ (HX.out _ H1.out).1).1).mono ?_); rintro e w5 ⟨rfl, hq⟩; rw [HV.out.1]; have H1 := Lib.hid (H1.out.trans (hq.mono H1.out.size)); clear hq ca cb; obtain ⟨ca, cb⟩ := (HC.out _ (HX.out _ H1.out).1).2.2.1)
                  | (go_at_call 42; (with_reducible refine (CircuitValid_s _ B _ (HC.out _ (HX.out _ H1.out).1).2.1).mono ?_); rintro e w6 ⟨rfl, hq⟩; rw [HV.out.2]; have H1 := Lib.hid (H1.out.trans (hq.mono H1.out.size)); clear hq ca cb; obtain ⟨ca, cb⟩ := (HC.out _ (HX.out _ H1.out).1).2.2.1))
                clear ca cb
                have cd := (HX.out _ H1.out).2.1
                go_upto_region 14 with fail
                clear cd
                have HW6 : Hid (Below W3.heap.size W3 w6) := H1
                obtain ⟨W4, hW4⟩ : ∃ W4, W4 = w6.alloc (.cells #[] 39) := ⟨_, rfl⟩
                obtain ⟨T, hT⟩ : ∃ T, T = w6.heap.size := ⟨_, rfl⟩
                have h0 : OwnSB W4 W3.heap.size (.slice (some ⟨T, 0, none⟩) 0 0) [] (rowsX ni (ms.take 0)) := by
                  refine ⟨?_, by simp, by simp⟩
                  rw [hW4, hT]
                  exact own_of_blk (size := 1) (n := 0) (cur := #[]) (blk_new w6 _) HW6.out.size (by simp) (by unfold maxLen; omega)
                have hb4 : Below W3.heap.size W3 W4 := by rw [hW4]; exact HW6.out.alloc HW6.out.size _
                rw [← hW4, ← hT]
                have H5 := Lib.hid (And.intro h0 hb4)
                clear hW4 hT h0 hb4 HW6 H1
                go_loopw [10, 9] (fun i x wr => ∃ (k : Nat) (sr : Option Addr) (cr : Nat) (vs : List Value), (k ≤ ms.length ∧ k ≤ 20) ∧ i = .int .i64 k ∧ x = .slice sr k cr ∧ OwnSB wr W3.heap.size (.slice sr k cr) vs (rowsX ni (ms.take k)) ∧ Below W3.heap.size W3 wr) (fun i _ _ => 20 - (intOf i).toNat)
                case atStart => exact ⟨0, _, _, [], ⟨Nat.zero_le _, Nat.zero_le _⟩, rfl, rfl, H5.out.1, H5.out.2⟩
                case round =>
                  obtain ⟨k, sr, cr, vs, ⟨hk1, hk2⟩, rfl, rfl, hO, hbl⟩ := hrel
                  have HR := Lib.hid (And.intro hO hbl)
                  clear hO hbl
                  by_cases h1 : k < ms.length
                  · by_cases h2 : k < 20
                    · have h3 : (k : Int) < 20 := by omega
                      obtain ⟨x, hx⟩ := get_of_lt (l := ms) (k := k) h1
                      have hxr := HM.out.2 x (List.mem_of_getElem? hx)
                      obtain ⟨x0, x255⟩ := hxr
                      have hwx : IntKind.i64.wrap x = x := IntWalk.i64_in _ ⟨by omega, by omega⟩
                      obtain ⟨b, off, rfl, hbw, hcs⟩ := HM.out.1.at (k := k) (by simpa using h1)
                      have hcz := hcs k (.int .u8 x) (by simp [u8s, hx])
                      have HZ : Hid (∀ W, Below W3.heap.size W3 W → (∀ o, W.cell? ⟨X, o, none⟩ = #[Value.int .i64 (ni : Int), .slice sn A.next.length cn, .slice sg A.gates.length cg, .slice so A.outs.length co][o]?) ∧ W.cell? ⟨b, off + k, none⟩ = some (.int .u8 x)) := fun W hW => by
                        have hh := HC.out _ (HX.out _ hW).1
                        exact ⟨hh.2.2.1.1, by rw [hh.2.2.2.1.cell (by exact hbw)]; exact hcz⟩
                      have HXX := Lib.hid hx
                      clear hcs hcz hbw hx
                      go_upto_region 16 with fail
                      refine wp_region_T (fun w' => (∀ o, w'.cell? ⟨X, o, none⟩ = #[Value.int .i64 (ni : Int), .slice sn A.next.length cn, .slice sg A.gates.length cg, .slice so A.outs.length co][o]?) ∧ w'.cell? ⟨b, off + k, none⟩ = some (.int .u8 x)) (.q 0 (.q 1 (.q 2 (.q 3 (.q 4 (.q 5 (.q 6 (.q 7 (.e 8 (.e 9 (.e 10 (.q 11 .nil)))))))))))) (by kernel_rfl) (by kernel_rfl) (by kernel_rfl) (HZ.out _ (HR.out.2.trans ((Below.refl _ _).drew.mono HR.out.2.size))) ?_
                      have hd := HR.out.2.trans ((Below.refl wr.heap.size wr).drew.mono HR.out.2.size)
                      have ho := HR.out.1.below (Below.refl wr.heap.size wr).drew
                      revert hd ho
                      generalize World.drew _ = Wd
                      intro hd ho
                      have HR := Lib.hid (And.intro ho hd)
                      clear hd ho
                      obtain ⟨ca, cz⟩ := HZ.out _ HR.out.2
                      repeat (first | (refine ordt_s (o := ?_) ?_ ?_ ?_; rotate_left 1; (focus ((simp only [zD, zE, zF]) <;> rfl)); (focus rfl); simp only [Act.put, zA, zB, zC]) | (refine ordt_q (o := ?_) (v := ?_) ?_ ?_ ?_ ?_; rotate_left 2; (focus ((simp only [zD, zE, zF]) <;> rfl)); (focus rfl); (focus (intro w' hS; (try dsimp only at hS); go_split_ands; go_simp; (try (with_reducible rfl)))); simp only [Act.put, zA, zB, zC]))
                      refine ordt_e ?_
                      (refine op_e (o := ?_) ?_ ?_ (fun K hK => ?_); rotate_left 1; (focus ((simp only [zD, zE, zF]) <;> rfl)); (focus rfl); go_simp)
                      with_reducible refine (bitsL_own x ni _ x0 (by omega) (by omega)).mono ?_
                      rintro e w8 ⟨s8, c8, rfl, h8, hq⟩
                      have H8 := Lib.hid (And.intro h8 (And.intro hq (HR.out.2.trans (hq.mono HR.out.2.size))))
                      clear h8 hq ca cz
                      obtain ⟨ca, cz⟩ := HZ.out _ H8.out.2.2
                      refine hK.out _ _ ⟨ca, cz⟩ ?_
                      clear hK K
                      (try simp only [Act.put, zA, zB, zC])
                      repeat (first | (refine ordt_s (o := ?_) ?_ ?_ ?_; rotate_left 1; (focus ((simp only [zD, zE, zF]) <;> rfl)); (focus rfl); simp only [Act.put, zA, zB, zC]) | (refine ordt_q (o := ?_) (v := ?_) ?_ ?_ ?_ ?_; rotate_left 2; (focus ((simp only [zD, zE, zF]) <;> rfl)); (focus rfl); (focus (intro w' hS; (try dsimp only at hS); go_split_ands; go_simp; (try (with_reducible rfl)))); simp only [Act.put, zA, zB, zC]))
                      refine ordt_e ?_
                      (refine op_e (o := ?_) ?_ ?_ (fun K hK => ?_); rotate_left 1; (focus ((simp only [zD, zE, zF]) <;> rfl)); (focus rfl); go_simp)
                      have hn9 := below_al w8 (.cells #[.slice s8 ni c8] 39)
                      have hs9 : Sl (w8.alloc (.cells #[.slice s8 ni c8] 39)) (some ⟨w8.heap.size, 0, none⟩) [.slice s8 ni c8] := Sl.new _ _ _
                      have ho9 := (HR.out.1.below H8.out.2.1).below hn9
                      have h89 := own_below H8.out.1 hn9
                      have hb9 := H8.out.2.2.trans (hn9.mono H8.out.2.2.size)
                      clear ca cz hn9
                      revert hs9 ho9 h89 hb9
                      generalize w8.alloc (.cells #[.slice s8 ni c8] 39) = W9
                      intro hs9 ho9 h89 hb9
                      have H9 := Lib.hid (And.intro hs9 (And.intro ho9 (And.intro h89 hb9)))
                      clear hs9 ho9 h89 hb9
                      obtain ⟨ca, cz⟩ := HZ.out _ H9.out.2.2.2
                      refine hK.out _ _ ⟨ca, cz⟩ ?_
                      clear hK K
                      (try simp only [Act.put, zA, zB, zC])
                      repeat (first | (refine ordt_s (o := ?_) ?_ ?_ ?_; rotate_left 1; (focus ((simp only [zD, zE, zF]) <;> rfl)); (focus rfl); simp only [Act.put, zA, zB, zC]) | (refine ordt_q (o := ?_) (v := ?_) ?_ ?_ ?_ ?_; rotate_left 2; (focus ((simp only [zD, zE, zF]) <;> rfl)); (focus rfl); (focus (intro w' hS; (try dsimp only at hS); go_split_ands; go_simp; (try (with_reducible rfl)))); simp only [Act.put, zA, zB, zC]))
                      refine ordt_e ?_
                      (refine op_e (o := ?_) ?_ ?_ (fun K hK => ?_); rotate_left 1; (focus ((simp only [zD, zE, zF]) <;> rfl)); (focus rfl))
                      have hol : (rowsX ni (ms.take k)).length = k := by rw [rowsX_length, List.length_take]; omega
                      refine wp_app _ _ rfl elem_bss2 (by have h := H9.out.2.1.out; rw [hol] at h; exact h) rfl rfl rfl H9.out.1 (by simp [Value.oneCell']) (k + 1) rfl _ rfl (by unfold maxLen; omega) (by omega) H9.out.2.2.2.size ?_
                      intro sv cv wv h6 hb6 hg6 _
                      have HV6 := Lib.hid (And.intro h6 (And.intro (H9.out.2.2.2.trans hb6) hg6))
                      have HOL := Lib.hid hol
                      clear h6 hb6 hg6 ca cz hol
                      obtain ⟨ca, cz⟩ := HZ.out _ HV6.out.2.1
                      refine hK.out _ _ ⟨ca, cz⟩ ?_
                      clear hK K ca cz
                      (try simp only [Act.put, zA, zB, zC])
                      repeat (first | (refine ordt_s (o := ?_) ?_ ?_ ?_; rotate_left 1; (focus ((simp only [zD, zE, zF]) <;> rfl)); (focus rfl); simp only [Act.put, zA, zB, zC]) | (refine ordt_q (o := ?_) (v := ?_) ?_ ?_ ?_ ?_; rotate_left 2; (focus ((simp only [zD, zE, zF]) <;> rfl)); (focus rfl); (focus (intro w' hS; (try dsimp only at hS); go_split_ands; go_simp; (try (with_reducible rfl)))); simp only [Act.put, zA, zB, zC]))
                      refine ordt_nil ?_
                      go_wp2_with fail
                      go_roundw
                      case rel =>
                        refine ⟨k + 1, sv, cv, vs ++ [.slice s8 ni c8], ⟨by omega, by omega⟩, by go_num, rfl, ?_, HV6.out.2.1⟩
                        have htk : rowsX ni (ms.take (k + 1)) = rowsX ni (ms.take k) ++ [bitsV x ni] := by
                          rw [List.take_add_one, HXX.out]; simp [rowsX]
                        rw [htk]
                        refine OwnSB.push H9.out.2.1 (by rw [bitsV_length]; exact own_base H9.out.2.2.1 HR.out.2.size) (fun q u' hq hm e => ?_) HV6.out.2.2 (by rw [HOL.out]; exact HV6.out.1)
                        obtain ⟨i, hi⟩ := List.mem_iff_getElem?.1 hm
                        obtain ⟨r', hr'⟩ := HR.out.1.rget hi
                        have q1 := (own_blk (HR.out.1.row i u' r' hi hr') e).2
                        have q2 := (own_blk H9.out.2.2.1 hq).1
                        omega
                      case measure => simp [intOf]; omega
                    · have h3 : ¬ (k : Int) < 20 := by omega
                      go_upto_region 17 with fail
                      obtain ⟨RW, hRWe⟩ : ∃ RW, RW = rowsX ni (ms.take k) := ⟨_, rfl⟩
                      have hRl0 : (rowsX ni (ms.take k)).length = k := by rw [rowsX_length, List.length_take]; omega
                      have hRl : RW.length = k ∧ k ≤ 40 ∧ (∀ r ∈ RW, r.length = ni) := by rw [hRWe]; exact ⟨hRl0, by omega, rowsX_mem⟩
                      have hRW : SlB wr sr RW := by rw [hRWe]; exact HR.out.1.slb' hRl0
                      have HEQ : Hid (outS A (List.replicate A.next.length false) RW = outS B (List.replicate B.next.length false) RW) := by rw [hRWe]; exact same_none HN.out.2.2.2 HN.out.1.1 HRR.out _
                      have H1 := Lib.hid HR.out.2
                      clear hRWe hRl0
                      have HRO := Lib.hid (And.intro hRW hRl)
                      clear hRW hRl
                      obtain ⟨ca, cb⟩ := (HC.out _ (HX.out _ H1.out).1).2.2.1
                      go_upto_region 18 with (go_at_call 27; (with_reducible refine (HSA.out _ sr cr k RW (HX.out _ H1.out).1 HRO.out.1 HRO.out.2.1 HRO.out.2.2.1 HRO.out.2.2.2).mono ?_); rintro e wp ⟨sp, cp, rfl, hP, hcp, hq⟩; have HP := Lib.hid hP; have HRO2 := Lib.hid (HRO.out.1.mono (hq)); have H1 := Lib.hid (H1.out.trans (hq.mono H1.out.size)); clear hP hq ca cb; obtain ⟨ca, cb⟩ := (HC.out _ (HX.out _ H1.out).1).2.2.1)
                      go_upto_region 19 with (go_at_call 27; (with_reducible refine (HSB.out _ sr cr k RW (HX.out _ H1.out).1 HRO2.out HRO.out.2.1 HRO.out.2.2.1 HRO.out.2.2.2).mono ?_); rintro e wq ⟨sq, cq, rfl, hQ, hcq, hq⟩; have HPQ := Lib.hid (And.intro (HP.out.mono hq) hQ); have H1 := Lib.hid (H1.out.trans (hq.mono H1.out.size)); clear hQ hq ca cb)
                      clear HP HRO2
                      have cd := (HX.out _ H1.out).2.1
                      have hk40 : ¬ (40 : Int) < (k : Int) := by have := HRO.out.2.2.1; omega
                      go_wp2_with (go_at_call 53; ((with_reducible refine (sameRows_any sp sq _ _ k _ _ A.outs.length _ HPQ.out.1 HPQ.out.2 (by rw [outS_length]; exact HRO.out.2.1) (by rw [outS_length]; exact HRO.out.2.1) (by have := HRO.out.2.2.1; omega) (outS_mem _ _) (by rw [HN.out.2.1]; exact outS_mem _ _) (by omega)).mono ?_); rintro e w8 ⟨rfl, hq⟩; rw [decide_eq_true HEQ.out]; have H1 := Lib.hid (H1.out.trans ((hq.below _).mono H1.out.size)); clear hq cd))
                      go_ret
                      exact ⟨rfl, (HC.out _ (HX.out _ H1.out).1).2.2.2.1⟩
                  · have h3 : ¬ (k : Int) < (ms.length : Int) := by omega
                    go_upto_region 17 with fail
                    obtain ⟨RW, hRWe⟩ : ∃ RW, RW = rowsX ni (ms.take k) := ⟨_, rfl⟩
                    have hRl0 : (rowsX ni (ms.take k)).length = k := by rw [rowsX_length, List.length_take]; omega
                    have hRl : RW.length = k ∧ k ≤ 40 ∧ (∀ r ∈ RW, r.length = ni) := by rw [hRWe]; exact ⟨hRl0, by omega, rowsX_mem⟩
                    have hRW : SlB wr sr RW := by rw [hRWe]; exact HR.out.1.slb' hRl0
                    have HEQ : Hid (outS A (List.replicate A.next.length false) RW = outS B (List.replicate B.next.length false) RW) := by rw [hRWe]; exact same_none HN.out.2.2.2 HN.out.1.1 HRR.out _
                    have H1 := Lib.hid HR.out.2
                    clear hRWe hRl0
                    have HRO := Lib.hid (And.intro hRW hRl)
                    clear hRW hRl
                    obtain ⟨ca, cb⟩ := (HC.out _ (HX.out _ H1.out).1).2.2.1
                    go_upto_region 18 with (go_at_call 27; (with_reducible refine (HSA.out _ sr cr k RW (HX.out _ H1.out).1 HRO.out.1 HRO.out.2.1 HRO.out.2.2.1 HRO.out.2.2.2).mono ?_); rintro e wp ⟨sp, cp, rfl, hP, hcp, hq⟩; have HP := Lib.hid hP; have HRO2 := Lib.hid (HRO.out.1.mono (hq)); have H1 := Lib.hid (H1.out.trans (hq.mono H1.out.size)); clear hP hq ca cb; obtain ⟨ca, cb⟩ := (HC.out _ (HX.out _ H1.out).1).2.2.1)
                    go_upto_region 19 with (go_at_call 27; (with_reducible refine (HSB.out _ sr cr k RW (HX.out _ H1.out).1 HRO2.out HRO.out.2.1 HRO.out.2.2.1 HRO.out.2.2.2).mono ?_); rintro e wq ⟨sq, cq, rfl, hQ, hcq, hq⟩; have HPQ := Lib.hid (And.intro (HP.out.mono hq) hQ); have H1 := Lib.hid (H1.out.trans (hq.mono H1.out.size)); clear hQ hq ca cb)
                    clear HP HRO2
                    have cd := (HX.out _ H1.out).2.1
                    have hk40 : ¬ (40 : Int) < (k : Int) := by have := HRO.out.2.2.1; omega
                    go_wp2_with (go_at_call 53; ((with_reducible refine (sameRows_any sp sq _ _ k _ _ A.outs.length _ HPQ.out.1 HPQ.out.2 (by rw [outS_length]; exact HRO.out.2.1) (by rw [outS_length]; exact HRO.out.2.1) (by have := HRO.out.2.2.1; omega) (outS_mem _ _) (by rw [HN.out.2.1]; exact outS_mem _ _) (by omega)).mono ?_); rintro e w8 ⟨rfl, hq⟩; rw [decide_eq_true HEQ.out]; have H1 := Lib.hid (H1.out.trans ((hq.below _).mono H1.out.size)); clear hq cd))
                    go_ret
                    exact ⟨rfl, (HC.out _ (HX.out _ H1.out).1).2.2.2.1⟩
              | some r =>
                have HRR := Lib.hid hdr
                have hsays := same_some HN.out.2.2.2 HN.out.1.1 hdr
                have hlen9 := disR_len HN.out.2.2.2 HN.out.2.2.1.1 HN.out.2.2.1.2 hdr
                obtain ⟨M, hrl, hs1, hs2⟩ := hsays
                clear hdr
                obtain ⟨RW, hRWe⟩ : ∃ RW, RW = rowsX ni r := ⟨_, rfl⟩
                obtain ⟨m, hme⟩ : ∃ m, m = RW.length := ⟨_, rfl⟩
                have hmM : m = M + 1 := by rw [hme, hRWe, rowsX_length]; exact hrl
                have hRm : RW.length = m ∧ (∀ r ∈ RW, r.length = ni) := ⟨hme.symm, by rw [hRWe]; exact rowsX_mem⟩
                rw [← hRWe] at hs1 hs2
                have HSS := Lib.hid (And.intro hs1 (And.intro hs2 (And.intro hRm hRWe)))
                have hm1000 : m ≤ 1000 := by rw [hme, hRWe, rowsX_length]; exact hlen9
                have HMM := Lib.hid hmM
                clear hs1 hs2 hRm hrl hme hRWe hlen9 hmM
                have HDI : Hid (∀ W, Below W1.heap.size W1 W → Calls Try.prog 48 #[.agg #[.int .i64 (ni : Int), .slice sn A.next.length cn, .slice sg A.gates.length cg, .slice so A.outs.length co], .agg #[.int .i64 (ni : Int), .slice tn B.next.length dn, .slice tg B.gates.length dg, .slice to_ A.outs.length do_]] W fun e w' => ∃ s1 c1, e = .returned (.agg #[.bool true, .slice s1 m c1]) ∧ SlB w' s1 RW ∧ Below W.heap.size W w') := fun W hW => by
                  refine (Distinguish_i _ _ A B W (HC.out _ hW).1 (HC.out _ hW).2.1).mono ?_
                  rintro e w' ⟨s1, c1, vs, rfl, hO, hq⟩
                  have hO := hO.slb
                  rw [HRR.out] at hO ⊢; simp only [Option.isSome_some, Option.elim_some, show A.inp.toNat = ni by rw [HN.out.1.1]; simp, ← HSS.out.2.2.2, HSS.out.2.2.1.1] at hO ⊢
                  exact ⟨s1, c1, rfl, hO, hq⟩
                have HDS : Hid (∀ W, Below W1.heap.size W1 W → Calls Try.prog 47 #[.agg #[.int .i64 (ni : Int), .slice sn A.next.length cn, .slice sg A.gates.length cg, .slice so A.outs.length co], .agg #[.int .i64 (ni : Int), .slice tn B.next.length dn, .slice tg B.gates.length dg, .slice to_ A.outs.length do_]] W fun e w' => ∃ s1 c1, e = .returned (.agg #[.bool true, .slice s1 m c1]) ∧ SlB w' s1 RW ∧ Below W.heap.size W w') := fun W hW => by
                  refine (Distinguish_s _ _ A B W (HC.out _ hW).1 (HC.out _ hW).2.1).mono ?_
                  rintro e w' ⟨s1, c1, rfl, hO, hq⟩
                  rw [HRR.out] at hO ⊢; simp only [Option.isSome_some, Option.elim_some, show A.inp.toNat = ni by rw [HN.out.1.1]; simp, ← HSS.out.2.2.2, HSS.out.2.2.1.1] at hO ⊢
                  exact ⟨s1, c1, rfl, hO, hq⟩
                go_upto_region 5 with (go_at_call 48; (with_reducible refine (HDI.out _ (Below.refl _ _)).mono ?_); rintro e w2 ⟨s1, c1, rfl, hO, hq⟩; have H2 := Lib.hid (And.intro hO hq); clear hO hq ca cb)
                obtain ⟨D, hD⟩ : ∃ D, D = w2.heap.size := ⟨_, rfl⟩
                obtain ⟨W2, hW2⟩ : ∃ W2, W2 = w2.alloc (.cells #[.bool true, .slice s1 m c1] 60) := ⟨_, rfl⟩
                have hb2 : Below w2.heap.size w2 W2 := by rw [hW2]; go_grown
                have x3 : W2.heap[D]? = some (.cells #[.bool true, .slice s1 m c1] 60 (0, 0)) := by rw [hW2, hD]; exact blk_new _ _
                have x2 := H2.out.1.mono hb2
                have HX : Hid (∀ W, Below W2.heap.size W2 W → Below W1.heap.size W1 W ∧ (∀ o, W.cell? ⟨D, o, none⟩ = #[Value.bool true, .slice s1 m c1][o]?) ∧ SlB W s1 RW ∧ W2.heap.size ≤ W.heap.size) := fun W hW =>
                  ⟨(H2.out.2.trans (hb2.mono H2.out.2.size)).trans (hW.mono (Nat.le_trans H2.out.2.size hb2.size)), (blk_all (blk_below hW (blk_lt x3) x3)).1, x2.mono hW, hW.size⟩
                rw [← hW2, ← hD]
                clear hW2 hD hb2 x3 x2 H2
                obtain ⟨ca, cb⟩ := (HC.out _ (HX.out _ (Below.refl _ _)).1).2.2.1
                go_upto_region 6 with (go_at_call 47; (with_reducible refine (HDS.out _ (HX.out _ (Below.refl _ _)).1).mono ?_); rintro e w3 ⟨s2, c2, rfl, hO, hq⟩; have H3 := Lib.hid (And.intro hO hq); clear hO hq ca cb)
                obtain ⟨E, hE⟩ : ∃ E, E = w3.heap.size := ⟨_, rfl⟩
                obtain ⟨W3, hW3⟩ : ∃ W3, W3 = w3.alloc (.cells #[.bool true, .slice s2 m c2] 60) := ⟨_, rfl⟩
                have hb3 : Below w3.heap.size w3 W3 := by rw [hW3]; go_grown
                have x3 : W3.heap[E]? = some (.cells #[.bool true, .slice s2 m c2] 60 (0, 0)) := by rw [hW3, hE]; exact blk_new _ _
                have x2 := H3.out.1.mono hb3
                have HY : Hid (∀ W, Below W3.heap.size W3 W → Below W2.heap.size W2 W ∧ (∀ o, W.cell? ⟨E, o, none⟩ = #[Value.bool true, .slice s2 m c2][o]?) ∧ SlB W s2 RW) := fun W hW =>
                  ⟨(H3.out.2.trans (hb3.mono H3.out.2.size)).trans (hW.mono (Nat.le_trans H3.out.2.size hb3.size)), (blk_all (blk_below hW (blk_lt x3) x3)).1, x2.mono hW⟩
                rw [← hW3, ← hE]
                clear hW3 hE hb3 x3 x2 H3 HDI HDS
                have cd := (HX.out _ (HY.out _ (Below.refl _ _)).1).2.1
                have ce := (HY.out _ (Below.refl _ _)).2.1
                go_upto_region 8 with (go_at_call 53; (go_loud (with_reducible refine (sameRows_any s1 s2 RW RW m _ _ ni _ (HX.out _ (HY.out _ (Below.refl _ _)).1).2.2.1 (HY.out _ (Below.refl _ _)).2.2 HSS.out.2.2.1.1 HSS.out.2.2.1.1 hm1000 HSS.out.2.2.1.2 HSS.out.2.2.1.2 (by omega)).mono ?_); rintro e w4 ⟨rfl, hq⟩; rw [decide_eq_true (rfl : RW = RW)]; have H4 := Lib.hid (hq.below W3.heap.size); clear hq))
                clear cd ce
                have HX : Hid (∀ W, Below W3.heap.size W3 W → Below W1.heap.size W1 W ∧ (∀ o, W.cell? ⟨D, o, none⟩ = #[Value.bool true, .slice s1 m c1][o]?) ∧ SlB W s1 RW) := fun W hW => ⟨(HX.out _ (HY.out _ hW).1).1, (HX.out _ (HY.out _ hW).1).2.1, (HX.out _ (HY.out _ hW).1).2.2.1⟩
                have H1 := H4
                obtain ⟨ca, cb⟩ := (HC.out _ (HX.out _ H1.out).1).2.2.1
                go_upto_region 10 with (first
                  | (go_at_call 42; (with_reducible refine (CircuitValid_s _ A _ (HC.out _ (HX.out _ H1.out).1).1).mono ?_); rintro e w5 ⟨rfl, hq⟩; rw [HV.out.1]; have H1 := Lib.hid (H1.out.trans (hq.mono H1.out.size)); clear hq ca cb; obtain ⟨ca, cb⟩ := (HC.out _ (HX.out _ H1.out).1).2.2.1)
                  | (go_at_call 42; (with_reducible refine (CircuitValid_s _ B _ (HC.out _ (HX.out _ H1.out).1).2.1).mono ?_); rintro e w6 ⟨rfl, hq⟩; rw [HV.out.2]; have H1 := Lib.hid (H1.out.trans (hq.mono H1.out.size)); clear hq ca cb; obtain ⟨ca, cb⟩ := (HC.out _ (HX.out _ H1.out).1).2.2.1))
                clear ca cb
                have cd := (HX.out _ H1.out).2.1
                go_upto_region 17 with fail
                clear cd
                by_cases h40 : m ≤ 40
                · have hRW := (HX.out _ H1.out).2.2
                  have hRl : RW.length = m ∧ m ≤ 40 ∧ (∀ r ∈ RW, r.length = ni) := ⟨HSS.out.2.2.1.1, h40, HSS.out.2.2.1.2⟩
                  have HRO := Lib.hid (And.intro hRW hRl)
                  clear hRW hRl
                  obtain ⟨ca, cb⟩ := (HC.out _ (HX.out _ H1.out).1).2.2.1
                  go_upto_region 18 with (go_at_call 27; (with_reducible refine (HSA.out _ s1 c1 m RW (HX.out _ H1.out).1 HRO.out.1 HRO.out.2.1 HRO.out.2.2.1 HRO.out.2.2.2).mono ?_); rintro e wp ⟨sp, cp, rfl, hP, hcp, hq⟩; have HP := Lib.hid hP; have HRO2 := Lib.hid (HRO.out.1.mono (hq)); have H1 := Lib.hid (H1.out.trans (hq.mono H1.out.size)); clear hP hq ca cb; obtain ⟨ca, cb⟩ := (HC.out _ (HX.out _ H1.out).1).2.2.1)
                  go_upto_region 19 with (go_at_call 27; (with_reducible refine (HSB.out _ s1 c1 m RW (HX.out _ H1.out).1 HRO2.out HRO.out.2.1 HRO.out.2.2.1 HRO.out.2.2.2).mono ?_); rintro e wq ⟨sq, cq, rfl, hQ, hcq, hq⟩; have HPQ := Lib.hid (And.intro (HP.out.mono hq) hQ); have H1 := Lib.hid (H1.out.trans (hq.mono H1.out.size)); clear hQ hq ca cb)
                  clear HP HRO2
                  have cd := (HX.out _ H1.out).2.1
                  have hk40 : ¬ (40 : Int) < (m : Int) := by have := HRO.out.2.2.1; omega
                  go_upto_region 24 with fail
                  clear cd
                  have hmi : (m : Int) - 1 = (M : Int) := by have := HMM.out; omega
                  have hwM : IntKind.i64.wrap (M : Int) = (M : Int) := IntWalk.i64_in _ ⟨by omega, by omega⟩
                  have hMm : M < m := by have := HMM.out; omega
                  have hm0 : decide ((0 : Int) < (m : Int)) = true := decide_eq_true (by omega)
                  have hm1 : decide (0 < m) = true := decide_eq_true (by omega)
                  have hm2 : 0 < m := by omega
                  have hM0 : 0 ≤ (M : Int) ∧ (M : Int) < (m : Int) := ⟨by omega, by omega⟩
                  have hMcp : M ≤ cp := by omega
                  have hMcq : M ≤ cq := by omega
                  have hla : (outS A (List.replicate A.next.length false) RW).length = m := by rw [outS_length]; exact HSS.out.2.2.1.1
                  have hlb : (outS B (List.replicate B.next.length false) RW).length = m := by rw [outS_length]; exact HSS.out.2.2.1.1
                  obtain ⟨x, hx⟩ := get_of_lt (l := outS A (List.replicate A.next.length false) RW) (k := M) (by omega)
                  obtain ⟨y, hy⟩ := get_of_lt (l := outS B (List.replicate B.next.length false) RW) (k := M) (by omega)
                  have hlx : x.length = A.outs.length := outS_mem _ _ x (List.mem_of_getElem? hx)
                  have hly : y.length = A.outs.length := by rw [HN.out.2.1]; exact outS_mem _ _ y (List.mem_of_getElem? hy)
                  have hxy : decide (x = y) = false := by
                    rw [decide_eq_false_iff_not]; intro e
                    exact HSS.out.2.1 (by rw [hx, hy, e])
                  obtain ⟨pb, po, px, pc, rfl, z1, zx⟩ := HPQ.out.1.at' (Below.refl _ _) hx hlx
                  obtain ⟨qb, qo, qx, qc, rfl, z2, zy⟩ := HPQ.out.2.at' (Below.refl _ _) hy hly
                  have HXY := Lib.hid (And.intro hxy (And.intro (And.intro hlx hly) (And.intro zx zy)))
                  have HLL := Lib.hid (And.intro hla hlb)
                  clear hla hlb hx hy hlx hly hxy zx zy
                  have HZ : Hid (∀ W, Below wq.heap.size wq W → (W.cell? ⟨pb, po + M, none⟩ = some (.slice px A.outs.length pc) ∧ W.cell? ⟨qb, qo + M, none⟩ = some (.slice qx A.outs.length qc)) ∧ (SlB W (some ⟨pb, po, none⟩) (outS A (List.replicate A.next.length false) RW) ∧ SlB W (some ⟨qb, qo, none⟩) (outS B (List.replicate B.next.length false) RW)) ∧ (Sl W px (bools x) ∧ Sl W qx (bools y)) ∧ Below W3.heap.size W3 W) := fun W hW => by
                    refine ⟨⟨?_, ?_⟩, ⟨HPQ.out.1.mono hW, HPQ.out.2.mono hW⟩, ⟨HXY.out.2.2.1.mono hW, HXY.out.2.2.2.mono hW⟩, H1.out.trans (hW.mono H1.out.size)⟩
                    · rw [hW.cell (World.block_lt_of_cell? wq _ z1)]; exact z1
                    · rw [hW.cell (World.block_lt_of_cell? wq _ z2)]; exact z2
                  clear z1 z2
                  refine wp_region_T (fun w' => w'.cell? ⟨pb, po + M, none⟩ = some (.slice px A.outs.length pc) ∧ w'.cell? ⟨qb, qo + M, none⟩ = some (.slice qx A.outs.length qc)) (.q 0 (.q 1 (.q 2 (.q 3 (.q 4 (.q 5 (.q 6 (.q 7 (.q 8 (.q 9 (.q 10 (.q 11 (.q 12 (.e 13 (.q 14 (.q 15 (.q 16 (.q 17 (.q 18 (.q 19 (.q 20 (.q 21 (.q 22 (.q 23 (.q 24 (.e 25 (.q 26 (.q 27 .nil)))))))))))))))))))))))))))) (by kernel_rfl) (by kernel_rfl) (by kernel_rfl) (HZ.out _ (Below.refl _ _).drew).1 ?_
                  have hd := (Below.refl wq.heap.size wq).drew
                  revert hd
                  generalize wq.drew = Wd
                  intro hd
                  have HBD := Lib.hid hd
                  clear hd
                  obtain ⟨z1, z2⟩ := (HZ.out _ HBD.out).1
                  repeat (first | (refine ordt_s (o := ?_) ?_ ?_ ?_; rotate_left 1; (focus ((simp only [zD, zE, zF]) <;> rfl)); (focus rfl); simp only [Act.put, zA, zB, zC]) | (refine ordt_q (o := ?_) (v := ?_) ?_ ?_ ?_ ?_; rotate_left 2; (focus ((simp only [zD, zE, zF]) <;> rfl)); (focus rfl); (focus (intro w' hS; (try dsimp only at hS); go_split_ands; go_simp; (try (with_reducible rfl)))); simp only [Act.put, zA, zB, zC]))
                  refine ordt_e ?_
                  (refine op_e (o := ?_) ?_ ?_ (fun K hK => ?_); rotate_left 1; (focus ((simp only [zD, zE, zF]) <;> rfl)); (focus rfl); go_simp)
                  with_reducible refine (sameBoolsN_any px qx pc qc A.outs.length x y _ (HZ.out _ HBD.out).2.2.1.1 (HZ.out _ HBD.out).2.2.1.2 HXY.out.2.1.1 HXY.out.2.1.2 (by omega)).mono ?_
                  rintro e wr ⟨rfl, hq⟩
                  rw [HXY.out.1]
                  have HBD := Lib.hid (HBD.out.trans ((hq.below _).mono HBD.out.size))
                  clear hq z1 z2
                  obtain ⟨z1, z2⟩ := (HZ.out _ HBD.out).1
                  refine hK.out _ _ ⟨z1, z2⟩ ?_
                  clear hK K
                  (try simp only [Act.put, zA, zB, zC])
                  repeat (first | (refine ordt_s (o := ?_) ?_ ?_ ?_; rotate_left 1; (focus ((simp only [zD, zE, zF]) <;> rfl)); (focus rfl); simp only [Act.put, zA, zB, zC]) | (refine ordt_q (o := ?_) (v := ?_) ?_ ?_ ?_ ?_; rotate_left 2; (focus ((simp only [zD, zE, zF]) <;> rfl)); (focus rfl); (focus (intro w' hS; (try dsimp only at hS); go_split_ands; go_simp; (try (with_reducible rfl)))); simp only [Act.put, zA, zB, zC]))
                  refine ordt_e ?_
                  (refine op_e (o := ?_) ?_ ?_ (fun K hK => ?_); rotate_left 1; (focus ((simp only [zD, zE, zF]) <;> rfl)); (focus rfl); go_simp)
                  with_reducible refine (sameRows_any (some ⟨pb, po, none⟩) (some ⟨qb, qo, none⟩) ((outS A (List.replicate A.next.length false) RW).take M) ((outS B (List.replicate B.next.length false) RW).take M) M cp cq A.outs.length _ ((HZ.out _ HBD.out).2.1.1.take M) ((HZ.out _ HBD.out).2.1.2.take M) (by rw [List.length_take, HLL.out.1]; omega) (by rw [List.length_take, HLL.out.2]; omega) (by omega) (fun r hr => outS_mem _ _ r (List.mem_of_mem_take hr)) (fun r hr => by rw [HN.out.2.1]; exact outS_mem _ _ r (List.mem_of_mem_take hr)) (by omega)).mono ?_
                  rintro e ws ⟨rfl, hq⟩
                  rw [decide_eq_true HSS.out.1]
                  have HBD := Lib.hid (HBD.out.trans ((hq.below _).mono HBD.out.size))
                  clear hq z1 z2
                  obtain ⟨z1, z2⟩ := (HZ.out _ HBD.out).1
                  refine hK.out _ _ ⟨z1, z2⟩ ?_
                  clear hK K z1 z2
                  (try simp only [Act.put, zA, zB, zC])
                  repeat (first | (refine ordt_s (o := ?_) ?_ ?_ ?_; rotate_left 1; (focus ((simp only [zD, zE, zF]) <;> rfl)); (focus rfl); simp only [Act.put, zA, zB, zC]) | (refine ordt_q (o := ?_) (v := ?_) ?_ ?_ ?_ ?_; rotate_left 2; (focus ((simp only [zD, zE, zF]) <;> rfl)); (focus rfl); (focus (intro w' hS; (try dsimp only at hS); go_split_ands; go_simp; (try (with_reducible rfl)))); simp only [Act.put, zA, zB, zC]))
                  refine ordt_nil ?_
                  go_wp2_with fail
                  go_ret
                  exact ⟨rfl, (HC.out _ (HX.out _ (HZ.out _ HBD.out).2.2.2).1).2.2.2.1⟩
                · have h41 : 40 < m := by omega
                  obtain ⟨ca, cb⟩ := (HC.out _ (HX.out _ H1.out).1).2.2.1
                  go_upto_region 18 with (go_at_call 27; (with_reducible refine (HMA.out _ s1 c1 m (HX.out _ H1.out).1 h41).mono ?_); rintro e wp ⟨rfl, hq⟩; have H1 := Lib.hid (H1.out.trans (hq.mono H1.out.size)); clear hq ca cb; obtain ⟨ca, cb⟩ := (HC.out _ (HX.out _ H1.out).1).2.2.1)
                  go_upto_region 19 with (go_at_call 27; (with_reducible refine (HMB.out _ s1 c1 m (HX.out _ H1.out).1 h41).mono ?_); rintro e wq ⟨rfl, hq⟩; have H1 := Lib.hid (H1.out.trans (hq.mono H1.out.size)); clear hq ca cb)
                  have hk40 : (40 : Int) < (m : Int) := by omega
                  go_wp2_with fail
                  go_ret
                  exact ⟨rfl, (HC.out _ (HX.out _ H1.out).1).2.2.2.1⟩
            · have HNIL : Hid (∀ r ∈ ([] : List (List Bool)), r.length = 0) := fun r h => (by cases h)
              have q3 : ¬ ((A.outs.length : Int) = (B.outs.length : Int)) := by omega
              have E1 := Lib.hid e1
              rw [← e1]
              clear e1
              have hdr := disR_no (show cmpB A B = false by simp [cmpB, e3])
              have HRR := Lib.hid hdr
              have HV := Lib.hid (And.intro hva hvb)
              clear hdr hva hvb e3
              obtain ⟨W1, hW1⟩ : ∃ W1, W1 = (w1.alloc (.cells #[.int .i64 A.inp, .slice sn A.next.length cn, .slice sg A.gates.length cg, .slice so A.outs.length co] 26)).alloc (.cells #[.int .i64 A.inp, .slice tn B.next.length dn, .slice tg B.gates.length dg, .slice to_ B.outs.length do_] 26) := ⟨_, rfl⟩
              have hb1 : Below w1.heap.size w1 W1 := by rw [hW1]; go_grown
              have y1 : CirV W1 (.agg #[.int .i64 A.inp, .slice sn A.next.length cn, .slice sg A.gates.length cg, .slice so A.outs.length co]) A := by
                have h := own_cv (own_cbelow H1.out.1 hb1)
                exact h
              have y2 : CirV W1 (.agg #[.int .i64 A.inp, .slice tn B.next.length dn, .slice tg B.gates.length dg, .slice to_ B.outs.length do_]) B := by
                have h := own_cv (own_cbelow H1.out.2.1 hb1)
                rw [E1.out]; exact h
              have y3 : W1.heap[X]? = some (.cells #[.int .i64 A.inp, .slice sn A.next.length cn, .slice sg A.gates.length cg, .slice so A.outs.length co] 26 (0, 0)) := by rw [hW1, hX]; exact blk_old (blk_new _ _)
              have y4 : W1.heap[X + 1]? = some (.cells #[.int .i64 A.inp, .slice tn B.next.length dn, .slice tg B.gates.length dg, .slice to_ B.outs.length do_] 26 (0, 0)) := by rw [hW1, hX]; exact blk_at (by simp)
              have y5 := H1.out.2.2.trans (hb1.mono H1.out.2.2.size)
              have HC : Hid (∀ W, Below W1.heap.size W1 W → CirV W (.agg #[.int .i64 A.inp, .slice sn A.next.length cn, .slice sg A.gates.length cg, .slice so A.outs.length co]) A ∧ CirV W (.agg #[.int .i64 A.inp, .slice tn B.next.length dn, .slice tg B.gates.length dg, .slice to_ B.outs.length do_]) B ∧ ((∀ o, W.cell? ⟨X, o, none⟩ = #[Value.int .i64 A.inp, .slice sn A.next.length cn, .slice sg A.gates.length cg, .slice so A.outs.length co][o]?) ∧ (∀ o, W.cell? ⟨X + 1, o, none⟩ = #[Value.int .i64 A.inp, .slice tn B.next.length dn, .slice tg B.gates.length dg, .slice to_ B.outs.length do_][o]?)) ∧ Below w.heap.size w W ∧ W1.heap.size ≤ W.heap.size) := fun W hW =>
                ⟨y1.mono hW, y2.mono hW, ⟨(blk_all (blk_below hW (blk_lt y3) y3)).1, (blk_all (blk_below hW (blk_lt y4) y4)).1⟩, y5.trans (hW.mono y5.size), hW.size⟩
              rw [← hW1, ← hX]
              clear hW1 hX hb1 y1 y2 y3 y4 y5 H1 HD
              obtain ⟨ca, cb⟩ := (HC.out _ (Below.refl _ _)).2.2.1
              have HDI : Hid (∀ W, Below W1.heap.size W1 W → Calls Try.prog 48 #[.agg #[.int .i64 A.inp, .slice sn A.next.length cn, .slice sg A.gates.length cg, .slice so A.outs.length co], .agg #[.int .i64 A.inp, .slice tn B.next.length dn, .slice tg B.gates.length dg, .slice to_ B.outs.length do_]] W fun e w' => ∃ s1 c1, e = .returned (.agg #[.bool false, .slice s1 0 c1]) ∧ SlB w' s1 ([] : List (List Bool)) ∧ Below W.heap.size W w') := fun W hW => by
                refine (Distinguish_i _ _ A B W (HC.out _ hW).1 (HC.out _ hW).2.1).mono ?_
                rintro e w' ⟨s1, c1, vs, rfl, hO, hq⟩
                have hO := hO.slb
                rw [HRR.out] at hO ⊢
                exact ⟨s1, c1, rfl, hO, hq⟩
              have HDS : Hid (∀ W, Below W1.heap.size W1 W → Calls Try.prog 47 #[.agg #[.int .i64 A.inp, .slice sn A.next.length cn, .slice sg A.gates.length cg, .slice so A.outs.length co], .agg #[.int .i64 A.inp, .slice tn B.next.length dn, .slice tg B.gates.length dg, .slice to_ B.outs.length do_]] W fun e w' => ∃ s1 c1, e = .returned (.agg #[.bool false, .slice s1 0 c1]) ∧ SlB w' s1 ([] : List (List Bool)) ∧ Below W.heap.size W w') := fun W hW => by
                refine (Distinguish_s _ _ A B W (HC.out _ hW).1 (HC.out _ hW).2.1).mono ?_
                rintro e w' ⟨s1, c1, rfl, hO, hq⟩
                rw [HRR.out] at hO ⊢
                exact ⟨s1, c1, rfl, hO, hq⟩
              go_upto_region 5 with (go_at_call 48; (with_reducible refine (HDI.out _ (Below.refl _ _)).mono ?_); rintro e w2 ⟨s1, c1, rfl, hO, hq⟩; have H2 := Lib.hid (And.intro hO hq); clear hO hq ca cb)
              obtain ⟨D, hD⟩ : ∃ D, D = w2.heap.size := ⟨_, rfl⟩
              obtain ⟨W2, hW2⟩ : ∃ W2, W2 = w2.alloc (.cells #[.bool false, .slice s1 0 c1] 60) := ⟨_, rfl⟩
              have hb2 : Below w2.heap.size w2 W2 := by rw [hW2]; go_grown
              have x3 : W2.heap[D]? = some (.cells #[.bool false, .slice s1 0 c1] 60 (0, 0)) := by rw [hW2, hD]; exact blk_new _ _
              have x2 := H2.out.1.mono hb2
              have HX : Hid (∀ W, Below W2.heap.size W2 W → Below W1.heap.size W1 W ∧ (∀ o, W.cell? ⟨D, o, none⟩ = #[Value.bool false, .slice s1 0 c1][o]?) ∧ SlB W s1 ([] : List (List Bool)) ∧ W2.heap.size ≤ W.heap.size) := fun W hW =>
                ⟨(H2.out.2.trans (hb2.mono H2.out.2.size)).trans (hW.mono (Nat.le_trans H2.out.2.size hb2.size)), (blk_all (blk_below hW (blk_lt x3) x3)).1, x2.mono hW, hW.size⟩
              rw [← hW2, ← hD]
              clear hW2 hD hb2 x3 x2 H2
              obtain ⟨ca, cb⟩ := (HC.out _ (HX.out _ (Below.refl _ _)).1).2.2.1
              go_upto_region 6 with (go_at_call 47; (with_reducible refine (HDS.out _ (HX.out _ (Below.refl _ _)).1).mono ?_); rintro e w3 ⟨s2, c2, rfl, hO, hq⟩; have H3 := Lib.hid (And.intro hO hq); clear hO hq ca cb)
              obtain ⟨E, hE⟩ : ∃ E, E = w3.heap.size := ⟨_, rfl⟩
              obtain ⟨W3, hW3⟩ : ∃ W3, W3 = w3.alloc (.cells #[.bool false, .slice s2 0 c2] 60) := ⟨_, rfl⟩
              have hb3 : Below w3.heap.size w3 W3 := by rw [hW3]; go_grown
              have x3 : W3.heap[E]? = some (.cells #[.bool false, .slice s2 0 c2] 60 (0, 0)) := by rw [hW3, hE]; exact blk_new _ _
              have x2 := H3.out.1.mono hb3
              have HY : Hid (∀ W, Below W3.heap.size W3 W → Below W2.heap.size W2 W ∧ (∀ o, W.cell? ⟨E, o, none⟩ = #[Value.bool false, .slice s2 0 c2][o]?) ∧ SlB W s2 ([] : List (List Bool))) := fun W hW =>
                ⟨(H3.out.2.trans (hb3.mono H3.out.2.size)).trans (hW.mono (Nat.le_trans H3.out.2.size hb3.size)), (blk_all (blk_below hW (blk_lt x3) x3)).1, x2.mono hW⟩
              rw [← hW3, ← hE]
              clear hW3 hE hb3 x3 x2 H3 HDI HDS
              have cd := (HX.out _ (HY.out _ (Below.refl _ _)).1).2.1
              have ce := (HY.out _ (Below.refl _ _)).2.1
              go_upto_region 8 with (go_at_call 53; (go_loud (with_reducible refine (sameRows_any s1 s2 ([] : List (List Bool)) ([] : List (List Bool)) 0 _ _ 0 _ (HX.out _ (HY.out _ (Below.refl _ _)).1).2.2.1 (HY.out _ (Below.refl _ _)).2.2 rfl rfl (by omega) HNIL.out HNIL.out (by omega)).mono ?_); rintro e w4 ⟨rfl, hq⟩; rw [decide_eq_true (rfl : ([] : List (List Bool)) = ([] : List (List Bool)))]; have H4 := Lib.hid (hq.below W3.heap.size); clear hq))
              clear cd ce
              have HX : Hid (∀ W, Below W3.heap.size W3 W → Below W1.heap.size W1 W ∧ (∀ o, W.cell? ⟨D, o, none⟩ = #[Value.bool false, .slice s1 0 c1][o]?) ∧ SlB W s1 ([] : List (List Bool))) := fun W hW => ⟨(HX.out _ (HY.out _ hW).1).1, (HX.out _ (HY.out _ hW).1).2.1, (HX.out _ (HY.out _ hW).1).2.2.1⟩
              have H1 := H4
              obtain ⟨ca, cb⟩ := (HC.out _ (HX.out _ H1.out).1).2.2.1
              go_upto_region 9 with (first
                | (go_at_call 42; (with_reducible refine (CircuitValid_s _ A _ (HC.out _ (HX.out _ H1.out).1).1).mono ?_); rintro e w5 ⟨rfl, hq⟩; rw [HV.out.1]; have H1 := Lib.hid (H1.out.trans (hq.mono H1.out.size)); clear hq ca cb; obtain ⟨ca, cb⟩ := (HC.out _ (HX.out _ H1.out).1).2.2.1)
                | (go_at_call 42; (with_reducible refine (CircuitValid_s _ B _ (HC.out _ (HX.out _ H1.out).1).2.1).mono ?_); rintro e w6 ⟨rfl, hq⟩; rw [HV.out.2]; have H1 := Lib.hid (H1.out.trans (hq.mono H1.out.size)); clear hq ca cb; obtain ⟨ca, cb⟩ := (HC.out _ (HX.out _ H1.out).1).2.2.1))
              clear ca cb
              have cd := (HX.out _ H1.out).2.1
              go_wp2_with (go_at_call 20; (with_reducible refine (aliveR_any _).mono ?_); rintro e w7 ⟨rfl, hq⟩; have H1 := Lib.hid (H1.out.trans (hq.mono H1.out.size)); clear hq cd)
              go_ret
              exact ⟨rfl, (HC.out _ (HX.out _ H1.out).1).2.2.2.1⟩
          · have HNIL : Hid (∀ r ∈ ([] : List (List Bool)), r.length = 0) := fun r h => (by cases h)
            have hdr := disR_no (show cmpB A B = false by simp [cmpB, e1])
            have HRR := Lib.hid hdr
            have HV := Lib.hid (And.intro hva hvb)
            clear hdr hva hvb
            obtain ⟨W1, hW1⟩ : ∃ W1, W1 = (w1.alloc (.cells #[.int .i64 A.inp, .slice sn A.next.length cn, .slice sg A.gates.length cg, .slice so A.outs.length co] 26)).alloc (.cells #[.int .i64 B.inp, .slice tn B.next.length dn, .slice tg B.gates.length dg, .slice to_ B.outs.length do_] 26) := ⟨_, rfl⟩
            have hb1 : Below w1.heap.size w1 W1 := by rw [hW1]; go_grown
            have y1 : CirV W1 (.agg #[.int .i64 A.inp, .slice sn A.next.length cn, .slice sg A.gates.length cg, .slice so A.outs.length co]) A := by
              have h := own_cv (own_cbelow H1.out.1 hb1)
              exact h
            have y2 : CirV W1 (.agg #[.int .i64 B.inp, .slice tn B.next.length dn, .slice tg B.gates.length dg, .slice to_ B.outs.length do_]) B := by
              have h := own_cv (own_cbelow H1.out.2.1 hb1)
              exact h
            have y3 : W1.heap[X]? = some (.cells #[.int .i64 A.inp, .slice sn A.next.length cn, .slice sg A.gates.length cg, .slice so A.outs.length co] 26 (0, 0)) := by rw [hW1, hX]; exact blk_old (blk_new _ _)
            have y4 : W1.heap[X + 1]? = some (.cells #[.int .i64 B.inp, .slice tn B.next.length dn, .slice tg B.gates.length dg, .slice to_ B.outs.length do_] 26 (0, 0)) := by rw [hW1, hX]; exact blk_at (by simp)
            have y5 := H1.out.2.2.trans (hb1.mono H1.out.2.2.size)
            have HC : Hid (∀ W, Below W1.heap.size W1 W → CirV W (.agg #[.int .i64 A.inp, .slice sn A.next.length cn, .slice sg A.gates.length cg, .slice so A.outs.length co]) A ∧ CirV W (.agg #[.int .i64 B.inp, .slice tn B.next.length dn, .slice tg B.gates.length dg, .slice to_ B.outs.length do_]) B ∧ ((∀ o, W.cell? ⟨X, o, none⟩ = #[Value.int .i64 A.inp, .slice sn A.next.length cn, .slice sg A.gates.length cg, .slice so A.outs.length co][o]?) ∧ (∀ o, W.cell? ⟨X + 1, o, none⟩ = #[Value.int .i64 B.inp, .slice tn B.next.length dn, .slice tg B.gates.length dg, .slice to_ B.outs.length do_][o]?)) ∧ Below w.heap.size w W ∧ W1.heap.size ≤ W.heap.size) := fun W hW =>
              ⟨y1.mono hW, y2.mono hW, ⟨(blk_all (blk_below hW (blk_lt y3) y3)).1, (blk_all (blk_below hW (blk_lt y4) y4)).1⟩, y5.trans (hW.mono y5.size), hW.size⟩
            rw [← hW1, ← hX]
            clear hW1 hX hb1 y1 y2 y3 y4 y5 H1 HD
            obtain ⟨ca, cb⟩ := (HC.out _ (Below.refl _ _)).2.2.1
            have HDI : Hid (∀ W, Below W1.heap.size W1 W → Calls Try.prog 48 #[.agg #[.int .i64 A.inp, .slice sn A.next.length cn, .slice sg A.gates.length cg, .slice so A.outs.length co], .agg #[.int .i64 B.inp, .slice tn B.next.length dn, .slice tg B.gates.length dg, .slice to_ B.outs.length do_]] W fun e w' => ∃ s1 c1, e = .returned (.agg #[.bool false, .slice s1 0 c1]) ∧ SlB w' s1 ([] : List (List Bool)) ∧ Below W.heap.size W w') := fun W hW => by
              refine (Distinguish_i _ _ A B W (HC.out _ hW).1 (HC.out _ hW).2.1).mono ?_
              rintro e w' ⟨s1, c1, vs, rfl, hO, hq⟩
              have hO := hO.slb
              rw [HRR.out] at hO ⊢
              exact ⟨s1, c1, rfl, hO, hq⟩
            have HDS : Hid (∀ W, Below W1.heap.size W1 W → Calls Try.prog 47 #[.agg #[.int .i64 A.inp, .slice sn A.next.length cn, .slice sg A.gates.length cg, .slice so A.outs.length co], .agg #[.int .i64 B.inp, .slice tn B.next.length dn, .slice tg B.gates.length dg, .slice to_ B.outs.length do_]] W fun e w' => ∃ s1 c1, e = .returned (.agg #[.bool false, .slice s1 0 c1]) ∧ SlB w' s1 ([] : List (List Bool)) ∧ Below W.heap.size W w') := fun W hW => by
              refine (Distinguish_s _ _ A B W (HC.out _ hW).1 (HC.out _ hW).2.1).mono ?_
              rintro e w' ⟨s1, c1, rfl, hO, hq⟩
              rw [HRR.out] at hO ⊢
              exact ⟨s1, c1, rfl, hO, hq⟩
            go_upto_region 5 with (go_at_call 48; (with_reducible refine (HDI.out _ (Below.refl _ _)).mono ?_); rintro e w2 ⟨s1, c1, rfl, hO, hq⟩; have H2 := Lib.hid (And.intro hO hq); clear hO hq ca cb)
            obtain ⟨D, hD⟩ : ∃ D, D = w2.heap.size := ⟨_, rfl⟩
            obtain ⟨W2, hW2⟩ : ∃ W2, W2 = w2.alloc (.cells #[.bool false, .slice s1 0 c1] 60) := ⟨_, rfl⟩
            have hb2 : Below w2.heap.size w2 W2 := by rw [hW2]; go_grown
            have x3 : W2.heap[D]? = some (.cells #[.bool false, .slice s1 0 c1] 60 (0, 0)) := by rw [hW2, hD]; exact blk_new _ _
            have x2 := H2.out.1.mono hb2
            have HX : Hid (∀ W, Below W2.heap.size W2 W → Below W1.heap.size W1 W ∧ (∀ o, W.cell? ⟨D, o, none⟩ = #[Value.bool false, .slice s1 0 c1][o]?) ∧ SlB W s1 ([] : List (List Bool)) ∧ W2.heap.size ≤ W.heap.size) := fun W hW =>
              ⟨(H2.out.2.trans (hb2.mono H2.out.2.size)).trans (hW.mono (Nat.le_trans H2.out.2.size hb2.size)), (blk_all (blk_below hW (blk_lt x3) x3)).1, x2.mono hW, hW.size⟩
            rw [← hW2, ← hD]
            clear hW2 hD hb2 x3 x2 H2
            obtain ⟨ca, cb⟩ := (HC.out _ (HX.out _ (Below.refl _ _)).1).2.2.1
            go_upto_region 6 with (go_at_call 47; (with_reducible refine (HDS.out _ (HX.out _ (Below.refl _ _)).1).mono ?_); rintro e w3 ⟨s2, c2, rfl, hO, hq⟩; have H3 := Lib.hid (And.intro hO hq); clear hO hq ca cb)
            obtain ⟨E, hE⟩ : ∃ E, E = w3.heap.size := ⟨_, rfl⟩
            obtain ⟨W3, hW3⟩ : ∃ W3, W3 = w3.alloc (.cells #[.bool false, .slice s2 0 c2] 60) := ⟨_, rfl⟩
            have hb3 : Below w3.heap.size w3 W3 := by rw [hW3]; go_grown
            have x3 : W3.heap[E]? = some (.cells #[.bool false, .slice s2 0 c2] 60 (0, 0)) := by rw [hW3, hE]; exact blk_new _ _
            have x2 := H3.out.1.mono hb3
            have HY : Hid (∀ W, Below W3.heap.size W3 W → Below W2.heap.size W2 W ∧ (∀ o, W.cell? ⟨E, o, none⟩ = #[Value.bool false, .slice s2 0 c2][o]?) ∧ SlB W s2 ([] : List (List Bool))) := fun W hW =>
              ⟨(H3.out.2.trans (hb3.mono H3.out.2.size)).trans (hW.mono (Nat.le_trans H3.out.2.size hb3.size)), (blk_all (blk_below hW (blk_lt x3) x3)).1, x2.mono hW⟩
            rw [← hW3, ← hE]
            clear hW3 hE hb3 x3 x2 H3 HDI HDS
            have cd := (HX.out _ (HY.out _ (Below.refl _ _)).1).2.1
            have ce := (HY.out _ (Below.refl _ _)).2.1
            go_upto_region 8 with (go_at_call 53; (go_loud (with_reducible refine (sameRows_any s1 s2 ([] : List (List Bool)) ([] : List (List Bool)) 0 _ _ 0 _ (HX.out _ (HY.out _ (Below.refl _ _)).1).2.2.1 (HY.out _ (Below.refl _ _)).2.2 rfl rfl (by omega) HNIL.out HNIL.out (by omega)).mono ?_); rintro e w4 ⟨rfl, hq⟩; rw [decide_eq_true (rfl : ([] : List (List Bool)) = ([] : List (List Bool)))]; have H4 := Lib.hid (hq.below W3.heap.size); clear hq))
            clear cd ce
            have HX : Hid (∀ W, Below W3.heap.size W3 W → Below W1.heap.size W1 W ∧ (∀ o, W.cell? ⟨D, o, none⟩ = #[Value.bool false, .slice s1 0 c1][o]?) ∧ SlB W s1 ([] : List (List Bool))) := fun W hW => ⟨(HX.out _ (HY.out _ hW).1).1, (HX.out _ (HY.out _ hW).1).2.1, (HX.out _ (HY.out _ hW).1).2.2.1⟩
            have H1 := H4
            obtain ⟨ca, cb⟩ := (HC.out _ (HX.out _ H1.out).1).2.2.1
            go_upto_region 9 with (first
              | (go_at_call 42; (with_reducible refine (CircuitValid_s _ A _ (HC.out _ (HX.out _ H1.out).1).1).mono ?_); rintro e w5 ⟨rfl, hq⟩; rw [HV.out.1]; have H1 := Lib.hid (H1.out.trans (hq.mono H1.out.size)); clear hq ca cb; obtain ⟨ca, cb⟩ := (HC.out _ (HX.out _ H1.out).1).2.2.1)
              | (go_at_call 42; (with_reducible refine (CircuitValid_s _ B _ (HC.out _ (HX.out _ H1.out).1).2.1).mono ?_); rintro e w6 ⟨rfl, hq⟩; rw [HV.out.2]; have H1 := Lib.hid (H1.out.trans (hq.mono H1.out.size)); clear hq ca cb; obtain ⟨ca, cb⟩ := (HC.out _ (HX.out _ H1.out).1).2.2.1))
            clear ca cb
            have cd := (HX.out _ H1.out).2.1
            go_wp2_with (go_at_call 20; (with_reducible refine (aliveR_any _).mono ?_); rintro e w7 ⟨rfl, hq⟩; have H1 := Lib.hid (H1.out.trans (hq.mono H1.out.size)); clear hq cd)
            go_ret
            exact ⟨rfl, (HC.out _ (HX.out _ H1.out).1).2.2.2.1⟩
    · clear hs hr hsm hrm
      have hmm : (1048576 : Int) < (ms.length : Int) := by omega
      have hcc : ¬ (1048576 : Int) < (xs.length : Int) := by omega
      go_enter Try.func10, Try.ntmps10
      go_wp2
      go_ret
      exact ⟨rfl, Below.refl _ _⟩
  · clear hs hr hsm hrm
    have hcc : (1048576 : Int) < (xs.length : Int) := by omega
    go_enter Try.func10, Try.ntmps10
    go_wp2
    go_ret
    exact ⟨rfl, Below.refl _ _⟩

end Go.Proofs.Ytbcolcchchgldaa
