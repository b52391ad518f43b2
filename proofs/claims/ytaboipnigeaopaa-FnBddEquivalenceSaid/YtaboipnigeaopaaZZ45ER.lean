import Derived.Test.YtaboipnigeaopaaZZ45EL
import Derived.Test.YtaboipnigeaopaaZZ45EP
import Derived.Test.YtaboipnigeaopaaZZ45BH
import Derived.Test.YtaboipnigeaopaaZZ45V2
import Derived.Test.YtaboipnigeaopaaZZ45L4
import Derived.Deep.DeepCutAuto
import Derived.BigQuiet
namespace Go.Proofs.Ytaboipnigeaopaa
set_option linter.unusedVariables false
set_option linter.unusedSimpArgs false
open Go.RowKit

/-! Part of the proof of one law. -/

theorem Bd.ext' {x y : Bd} (h1 : x.nodes = y.nodes) (h2 : x.root = y.root) : x = y := by cases x; cases y; simp_all

set_option maxRecDepth 100000 in
set_option maxHeartbeats 1600000 in
theorem sameBdd_any (sn sn' : Option Addr) (cn cn' : Nat) (x y : Bd) (b : Bool) (w : World) (h1 : Sl w sn (ncells x.nodes)) (k1 : Sl w sn' (ncells y.nodes)) (hl1 : x.nodes.length ≤ 1000) (ml1 : y.nodes.length ≤ 1000) (hr : -1000 ≤ x.root ∧ x.root ≤ 1000) (hr2 : -1000 ≤ y.root ∧ y.root ≤ 1000) (hb : b = true ↔ x = y) :
    Calls Try.prog 26 #[.agg #[.slice sn x.nodes.length cn, .int .i64 x.root], .agg #[.slice sn' y.nodes.length cn', .int .i64 y.root]] w fun e w' => e = .returned (.bool b) ∧ Below w.heap.size w w' := by
  have HB := Lib.hid hb
  obtain ⟨xs, xr⟩ := x
  obtain ⟨ys, yr⟩ := y
  dsimp only at h1 k1 hl1 ml1 hr hr2 ⊢
  clear hb
  obtain ⟨A, hA⟩ : ∃ A, A = w.heap.size := ⟨_, rfl⟩
  have hL : Below w.heap.size w ((w.alloc (.cells #[.slice sn xs.length cn, .int .i64 xr] 47)).alloc (.cells #[.slice sn' ys.length cn', .int .i64 yr] 47)) := by go_grown
  have hk0 := blk_old (o := .cells #[.slice sn' ys.length cn', .int .i64 yr] 47) (blk_new w (.cells #[.slice sn xs.length cn, .int .i64 xr] 47))
  have hk1 : ((w.alloc (.cells #[.slice sn xs.length cn, .int .i64 xr] 47)).alloc (.cells #[.slice sn' ys.length cn', .int .i64 yr] 47)).heap[w.heap.size + 1]? = some (.cells #[.slice sn' ys.length cn', .int .i64 yr] 47 (0, 0)) := blk_at (by simp)
  have HL : Hid (Below w.heap.size w ((w.alloc (.cells #[.slice sn xs.length cn, .int .i64 xr] 47)).alloc (.cells #[.slice sn' ys.length cn', .int .i64 yr] 47)) ∧ _ ∧ _ ∧ Sl _ sn (ncells xs) ∧ Sl _ sn' (ncells ys)) := Lib.hid (And.intro hL (And.intro hk0 (And.intro hk1 (And.intro (h1.mono hL) (k1.mono hL)))))
  clear h1 k1 hL hk0 hk1 hA
  go_enter Try.func26, Try.ntmps26
  go_upto_region 1 with fail
  revert HL
  generalize ((w.alloc (.cells #[.slice sn xs.length cn, .int .i64 xr] 47)).alloc (.cells #[.slice sn' ys.length cn', .int .i64 yr] 47)) = W1
  intro HL
  have ca := (blk_all HL.out.2.1).1
  have cb := (blk_all HL.out.2.2.1).1
  by_cases e1 : xr = yr
  · subst e1
    by_cases e2 : xs.length = ys.length
    · obtain ⟨n, hn⟩ : ∃ n, n = xs.length := ⟨_, rfl⟩
      rw [← hn] at ca hl1
      rw [← e2, ← hn] at cb
      have HN := Lib.hid (And.intro hn (hn.trans e2))
      clear hn e2 ml1
      go_wp2_with fail
      clear ca cb
      go_loopw [5] (fun i wr => ∃ k : Nat, k ≤ n ∧ i = .int .i64 k ∧ xs.take k = ys.take k ∧ Drew W1 wr) (fun i _ => n - (intOf i).toNat)
      case atStart => exact ⟨0, Nat.zero_le _, rfl, rfl, Drew.refl _⟩
      case round =>
        obtain ⟨k, hk, rfl, htk, hd⟩ := hrel
        have ca : ∀ m o, (wr.drewN m).cell? ⟨w.heap.size, o, none⟩ = #[Value.slice sn n cn, .int .i64 xr][o]? := fun m o => by
          have h : (wr.drewN m).heap = W1.heap := (hd.n m).heap
          unfold World.cell?; rw [h]; have := (blk_all HL.out.2.1).1 o; unfold World.cell? at this; rw [this, ← HN.out.1]
        have ca0 := (blk_all (blk_below (hd.below W1.heap.size) (blk_lt HL.out.2.1) HL.out.2.1)).1
        have cb0 := (blk_all (blk_below (hd.below W1.heap.size) (blk_lt HL.out.2.2.1) HL.out.2.2.1)).1
        rw [← HN.out.1] at ca0
        rw [← HN.out.2] at cb0
        clear ca
        have HT := Lib.hid (And.intro htk hd)
        clear htk hd
        by_cases hlt : k < n
        · obtain ⟨x, hx⟩ := get_of_lt (l := xs) (k := k) (by have := HN.out.1; omega)
          obtain ⟨y, hy⟩ := get_of_lt (l := ys) (k := k) (by have := HN.out.2; omega)
          obtain ⟨b1, off, rfl, hbw, hz1, hz2, hz3⟩ := HL.out.2.2.2.1.node (HT.out.2.below _) hx
          obtain ⟨b2, off2, rfl, hbw2, hz4, hz5, hz6⟩ := HL.out.2.2.2.2.node (HT.out.2.below _) hy
          have HR := Lib.hid (And.intro hx hy)
          clear hx hy hbw hbw2
          obtain ⟨xv, xl, xh⟩ := x
          obtain ⟨yv, yl, yh⟩ := y
          dsimp only at hz1 hz2 hz3 hz4 hz5 hz6
          by_cases he : (⟨xv, xl, xh⟩ : Nd) = ⟨yv, yl, yh⟩
          · obtain ⟨rfl, rfl, rfl⟩ : xv = yv ∧ xl = yl ∧ xh = yh := by simpa using he
            clear he
            go_upto_region 6 with fail
            go_quiet (fail)
            go_wp2_with fail
            go_roundw
            case rel => exact ⟨k + 1, by omega, by go_num, by rw [List.take_add_one, List.take_add_one, HT.out.1, HR.out.1, HR.out.2], HT.out.2.n _⟩
            case measure => simp [intOf]; omega
          · have HE := Lib.hid he
            clear he
            have hne : xv ≠ yv ∨ (xv = yv ∧ (xl ≠ yl ∨ (xl = yl ∧ xh ≠ yh))) := by
              by_cases a1 : xv = yv
              · by_cases a2 : xl = yl
                · by_cases a3 : xh = yh
                  · exact absurd (by rw [a1, a2, a3]) HE.out
                  · exact .inr ⟨a1, .inr ⟨a2, a3⟩⟩
                · exact .inr ⟨a1, .inl a2⟩
              · exact .inl a1
            have hbf : b = false := by
              cases b with
              | false => rfl
              | true =>
                exfalso
                have := HB.out.1 rfl
                simp only [Bd.mk.injEq] at this
                have h2 := HR.out.1
                rw [this.1, HR.out.2] at h2
                exact HE.out (Option.some.inj h2).symm
            subst hbf
            rcases hne with hne | ⟨rfl, hne | ⟨rfl, hne⟩⟩
            all_goals go_upto_region 6 with fail
            all_goals go_quiet (fail)
            all_goals go_wp2_with fail
            all_goals go_ret
            all_goals exact ⟨rfl, HL.out.1.trans ((HT.out.2.n _).below _ |>.mono HL.out.1.size)⟩
        · obtain rfl : k = n := by omega
          have hbt : b = true := HB.out.2 (Bd.ext' (by
            have h := HT.out.1
            rwa [List.take_of_length_le (by have := HN.out.1; show xs.length ≤ k; omega), List.take_of_length_le (by have := HN.out.2; show ys.length ≤ k; omega)] at h) rfl)
          subst hbt
          go_wp2_with fail
          go_ret
          exact ⟨rfl, HL.out.1.trans ((HT.out.2.below _).mono HL.out.1.size)⟩
    · have hbf : b = false := by
        cases b with
        | false => rfl
        | true => exfalso; have := HB.out.1 rfl; simp only [Bd.mk.injEq] at this; exact e2 (by rw [this.1])
      subst hbf
      go_wp2_with fail
      go_ret
      exact ⟨rfl, HL.out.1⟩
  · have hbf : b = false := by
      cases b with
      | false => rfl
      | true => exfalso; have := HB.out.1 rfl; simp only [Bd.mk.injEq] at this; exact e1 this.2
    subst hbf
    go_wp2_with fail
    go_ret
    exact ⟨rfl, HL.out.1⟩

theorem bdR_root (c : Cir) (l : Int) : 0 ≤ (bdR c l).root ∧ (bdR c l).root ≤ 200 := by
  by_cases h : tsOk c l
  · have hl := bdR_len c l
    rw [bdR_yes h] at hl ⊢
    obtain ⟨q1, q2, q3, q4, q5⟩ := (c.validB_iff.1 h.1).lim
    have := ((Bd.validB_iff _).1 (bdK_valid (litF c l) (n := c.inp.toNat + c.next.length) (by omega))).1
    have h1 := this.r0; have h2 := this.r1
    omega
  · rw [bdR_no h]; simp

theorem bdd_rows {a b : Cir} (hva : a.valid) (hvb : b.valid) (hi : a.inp = b.inp) (hn : a.next.length = b.next.length) {xs ys : List Int} (hl : xs.length = ys.length) (hx : ∀ l ∈ xs, litP l a.vars) (hy : ∀ l ∈ ys, litP l b.vars) :
    (∀ (j : Nat) (l m : Int), xs[j]? = some l → ys[j]? = some m → bdR a l = bdR b m) ↔ ∀ x : Nat, x < asgN a → xs.map (litB (evalV a (x : Int) (-1) false)) = ys.map (litB (evalV b (x : Int) (-1) false)) := by
  have n7 : a.inp.toNat + a.next.length ≤ 7 := by
    have h1 := hva.lim.2.1; have h2 := hva.lim.2.2.1; omega
  have key : ∀ l m, l ∈ xs → m ∈ ys → (bdR a l = bdR b m ↔ ∀ x : Nat, x < asgN a → litF a l x = litF b m x) := fun l m h1 h2 => by
    rw [bdR_yes ⟨(Cir.validB_iff a).2 hva, hx l h1⟩, bdR_yes ⟨(Cir.validB_iff b).2 hvb, hy m h2⟩, ← hi, ← hn]
    exact bdK_iff _ _ n7
  constructor
  · intro h x hlt
    apply List.ext_getElem (by simp [hl])
    intro j h1 h2
    simp only [List.length_map] at h1 h2
    rw [List.getElem_map, List.getElem_map]
    exact (key _ _ (List.getElem_mem h1) (List.getElem_mem h2)).1 (h j _ _ (List.getElem?_eq_getElem h1) (List.getElem?_eq_getElem h2)) x hlt
  · intro h j l m h1 h2
    refine (key l m (List.mem_of_getElem? h1) (List.mem_of_getElem? h2)).2 fun x hlt => ?_
    have h3 := h x hlt
    have h4 : (xs.map (litB (evalV a (x : Int) (-1) false)))[j]? = (ys.map (litB (evalV b (x : Int) (-1) false)))[j]? := by rw [h3]
    rw [List.getElem?_map, List.getElem?_map, h1, h2] at h4
    simpa [litF] using h4

theorem equiv_bdd {a b : Cir} (h : sifB a b = true) : equivB a b = true ↔ (∀ (j : Nat) (l m : Int), a.outs[j]? = some l → b.outs[j]? = some m → bdR a l = bdR b m) ∧ (∀ (j : Nat) (l m : Int), a.next[j]? = some l → b.next[j]? = some m → bdR a l = bdR b m) := by
  obtain ⟨va, vb, hi, hn, ho⟩ := sifB_iff.1 h
  have hva := a.validB_iff.1 va
  have hvb := b.validB_iff.1 vb
  rw [bdd_rows hva hvb hi hn ho hva.outs hvb.outs, bdd_rows hva hvb hi hn hn hva.next hvb.next, equivB_iff]
  unfold resV
  constructor
  · intro hh
    have h2 := hh.2
    refine ⟨fun x hx => ?_, fun x hx => ?_⟩
    · have h3 := h2 x hx
      rw [List.map_append, List.map_append] at h3
      exact (List.append_inj h3 (by simp [hn])).2
    · have h3 := h2 x hx
      rw [List.map_append, List.map_append] at h3
      exact (List.append_inj h3 (by simp [hn])).1
  · intro hh
    refine ⟨h, fun x hx => ?_⟩
    rw [List.map_append, List.map_append, hh.1 x hx, hh.2 x hx]

/-- The first n diagrams agree. -/
def agB (a b : Cir) (xs ys : List Int) (n : Nat) : Prop := ∀ (j : Nat) (l m : Int), j < n → xs[j]? = some l → ys[j]? = some m → bdR a l = bdR b m

theorem agB_zero (a b : Cir) (xs ys : List Int) : agB a b xs ys 0 := fun j l m h => by omega

theorem agB_succ {a b : Cir} {xs ys : List Int} {n : Nat} {l m : Int} (h1 : xs[n]? = some l) (h2 : ys[n]? = some m) : agB a b xs ys (n + 1) ↔ agB a b xs ys n ∧ bdR a l = bdR b m := by
  constructor
  · intro h
    exact ⟨fun j x y hj => h j x y (by omega), h n l m (by omega) h1 h2⟩
  · rintro ⟨h, e⟩ j x y hj hx hy
    by_cases hn : j < n
    · exact h j x y hn hx hy
    · obtain rfl : j = n := by omega
      rw [h1] at hx; rw [h2] at hy
      cases hx; cases hy; exact e

theorem agB_all {a b : Cir} {xs ys : List Int} : agB a b xs ys xs.length ↔ ∀ (j : Nat) (l m : Int), xs[j]? = some l → ys[j]? = some m → bdR a l = bdR b m :=
  ⟨fun h j l m h1 h2 => h j l m (List.getElem?_eq_some_iff.1 h1).1 h1 h2, fun h j l m _ h1 h2 => h j l m h1 h2⟩

theorem ex_bool (P : Prop) : ∃ b : Bool, b = true ↔ P := by
  by_cases h : P
  · exact ⟨true, by simp [h]⟩
  · exact ⟨false, by simp [h]⟩

set_option maxRecDepth 100000 in
set_option maxHeartbeats 3200000 in
theorem FnBddEquivalence_any (s : Option Addr) (cap : Nat) (xs : List Int) (w : World) (hs : Sl w s (u8s xs)) (hl : xs.length ≤ 9223372036854775807) (hcap : xs.length ≤ cap) (hcap2 : cap ≤ 9223372036854775807) (hr : ∀ x ∈ xs, 0 ≤ x ∧ x ≤ 255) :
    Calls Try.prog 5 #[.slice s xs.length cap] w fun e w' => e = .returned (.bool true) ∧ Below w.heap.size w w' := by
  by_cases hc : xs.length ≤ 1048576
  · have HD := Lib.hid (DrawEquivalent_any s cap xs w hs hc hcap hcap2 hr)
    clear hs hr
    go_enter Try.func5, Try.ntmps5
    go_upto_region 4 with (go_at_call 22; (with_reducible refine HD.out.mono ?_); rintro e w1 ⟨A, B, vn, vg, vo, un, ug, uo, rfl, h0, h1, h4⟩; obtain ⟨sn, cn, rfl⟩ := own_shape h0.n; obtain ⟨sg, cg, rfl⟩ := own_shape h0.g; obtain ⟨so, co, rfl⟩ := own_shape h0.o; obtain ⟨tn, dn, rfl⟩ := own_shape h1.n; obtain ⟨tg, dg, rfl⟩ := own_shape h1.g; obtain ⟨to_, do_, rfl⟩ := own_shape h1.o; have H1 := Lib.hid (And.intro h0 (And.intro h1 h4)); clear h0 h1 h4)
    obtain ⟨X, hX⟩ : ∃ X, X = w1.heap.size := ⟨_, rfl⟩
    cases hs : sifB A B
    · have he : equivB A B = false := by simp [equivB, hs]
      have HE := Lib.hid he
      have HF := Lib.hid hs
      clear he hs
      obtain ⟨W1, hW1⟩ : ∃ W1, W1 = (w1.alloc (.cells #[.int .i64 A.inp, .slice sn A.next.length cn, .slice sg A.gates.length cg, .slice so A.outs.length co] 26)).alloc (.cells #[.int .i64 B.inp, .slice tn B.next.length dn, .slice tg B.gates.length dg, .slice to_ B.outs.length do_] 26) := ⟨_, rfl⟩
      have hb1 : Below w1.heap.size w1 W1 := by rw [hW1]; go_grown
      have y1 : CirV W1 (.agg #[.int .i64 A.inp, .slice sn A.next.length cn, .slice sg A.gates.length cg, .slice so A.outs.length co]) A := by
        have h := own_cv (own_cbelow H1.out.1 hb1)
        exact h
      have y2 : CirV W1 (.agg #[.int .i64 B.inp, .slice tn B.next.length dn, .slice tg B.gates.length dg, .slice to_ B.outs.length do_]) B := by
        have h := own_cv (own_cbelow H1.out.2.1 hb1)
        exact h
      have y3 : W1.heap[X]? = some (.cells #[.int .i64 A.inp, .slice sn A.next.length cn, .slice sg A.gates.length cg, .slice so A.outs.length co] 26 (0, 0)) := by rw [hW1, hX]; exact blk_old (blk_new _ _)
      have y4 : W1.heap[X + 1]? = some (.cells #[.int .i64 B.inp, .slice tn B.next.length dn, .slice tg B.gates.length dg, .slice to_ B.outs.length do_] 26 (0, 0)) := by rw [hW1, hX]; exact blk_at (by simp)
      have y5 := H1.out.2.2.trans (hb1.mono H1.out.2.2.size)
      have y6 : (Sl W1 sn (ints A.next) ∧ Sl W1 so (ints A.outs)) ∧ Sl W1 tn (ints B.next) ∧ Sl W1 to_ (ints B.outs) := ⟨⟨own_sl (own_below H1.out.1.n hb1), own_sl (own_below H1.out.1.o hb1)⟩, own_sl (own_below H1.out.2.1.n hb1), own_sl (own_below H1.out.2.1.o hb1)⟩
      have HC : Hid (∀ W, Below W1.heap.size W1 W → CirV W (.agg #[.int .i64 A.inp, .slice sn A.next.length cn, .slice sg A.gates.length cg, .slice so A.outs.length co]) A ∧ CirV W (.agg #[.int .i64 B.inp, .slice tn B.next.length dn, .slice tg B.gates.length dg, .slice to_ B.outs.length do_]) B ∧ ((∀ o, W.cell? ⟨X, o, none⟩ = #[Value.int .i64 A.inp, .slice sn A.next.length cn, .slice sg A.gates.length cg, .slice so A.outs.length co][o]?) ∧ (∀ o, W.cell? ⟨X + 1, o, none⟩ = #[Value.int .i64 B.inp, .slice tn B.next.length dn, .slice tg B.gates.length dg, .slice to_ B.outs.length do_][o]?)) ∧ Below w.heap.size w W) := fun W hW =>
        ⟨y1.mono hW, y2.mono hW, ⟨(blk_all (blk_below hW (blk_lt y3) y3)).1, (blk_all (blk_below hW (blk_lt y4) y4)).1⟩, y5.trans (hW.mono y5.size)⟩
      have HSS : Hid (∀ W, Below W1.heap.size W1 W → (Sl W sn (ints A.next) ∧ Sl W so (ints A.outs)) ∧ Sl W tn (ints B.next) ∧ Sl W to_ (ints B.outs)) := fun W hW => ⟨⟨y6.1.1.mono hW, y6.1.2.mono hW⟩, y6.2.1.mono hW, y6.2.2.mono hW⟩
      rw [← hW1, ← hX]
      clear hW1 hX hb1 y1 y2 y3 y4 y5 y6 H1 HD
      have H1 := Lib.hid (Below.refl W1.heap.size W1)
      obtain ⟨ca, cb⟩ := (HC.out _ H1.out).2.2.1
      go_wp2_with (first
        | (go_at_call 23; (with_reducible refine (Equivalent_i _ _ A B _ (HC.out _ H1.out).1 (HC.out _ H1.out).2.1).mono ?_); rintro e w2 ⟨rfl, hq⟩; rw [HE.out]; have H1 := Lib.hid (H1.out.trans (hq.mono H1.out.size)); clear hq ca cb; obtain ⟨ca, cb⟩ := (HC.out _ H1.out).2.2.1)
        | (go_at_call 24; (with_reducible refine (Equivalent_s _ _ A B _ (HC.out _ H1.out).1 (HC.out _ H1.out).2.1).mono ?_); rintro e w3 ⟨rfl, hq⟩; rw [HE.out]; have H1 := Lib.hid (H1.out.trans (hq.mono H1.out.size)); clear hq ca cb; obtain ⟨ca, cb⟩ := (HC.out _ H1.out).2.2.1)
        | (go_at_call 25; (with_reducible refine (SameInterface_s _ _ A B _ (HC.out _ H1.out).1 (HC.out _ H1.out).2.1).mono ?_); rintro e w4 ⟨rfl, hq⟩; rw [HF.out]; have H1 := Lib.hid (H1.out.trans (hq.mono H1.out.size)); clear hq ca cb; obtain ⟨ca, cb⟩ := (HC.out _ H1.out).2.2.1)
        | (go_at_call 12; (with_reducible refine (aliveR_any _).mono ?_); rintro e w7 ⟨rfl, hq⟩; have H1 := Lib.hid (H1.out.trans (hq.mono H1.out.size)); clear hq ca cb; obtain ⟨ca, cb⟩ := (HC.out _ H1.out).2.2.1))
      go_ret
      exact ⟨rfl, (HC.out _ H1.out).2.2.2⟩
    · obtain ⟨va, vb, s1, s2, s3⟩ := sifB_iff.1 hs
      have hva := A.validB_iff.1 va
      have hvb := B.validB_iff.1 vb
      obtain ⟨ni, hni⟩ : ∃ ni : Nat, A.inp = ni := ⟨A.inp.toNat, by have := hva.lim.1; omega⟩
      have hEQ := equiv_bdd hs
      obtain ⟨E, hE⟩ : ∃ E, equivB A B = E := ⟨_, rfl⟩
      rw [hE] at hEQ
      have HE := Lib.hid hE
      have HF := Lib.hid hs
      have HEQ := Lib.hid hEQ
      have HL := Lib.hid (And.intro s2 s3)
      have HLIT : Hid ((∀ x ∈ A.next ++ A.outs, 0 ≤ x ∧ x ≤ 1000000) ∧ (∀ x ∈ B.next ++ B.outs, 0 ≤ x ∧ x ≤ 1000000)) := ⟨fun x hx => ⟨(roots_lits hva x hx).1, (roots_lits hva x hx).2.1⟩, fun x hx => ⟨(roots_lits hvb x hx).1, (roots_lits hvb x hx).2.1⟩⟩
      have o3 : A.outs.length ≤ 3 := hva.lim.2.2.2.2
      have n3 : A.next.length ≤ 3 := hva.lim.2.2.1
      rw [← s1, ← s2, ← s3, hni]
      obtain ⟨W1, hW1⟩ : ∃ W1, W1 = (w1.alloc (.cells #[.int .i64 (ni : Int), .slice sn A.next.length cn, .slice sg A.gates.length cg, .slice so A.outs.length co] 26)).alloc (.cells #[.int .i64 (ni : Int), .slice tn A.next.length dn, .slice tg B.gates.length dg, .slice to_ A.outs.length do_] 26) := ⟨_, rfl⟩
      have hb1 : Below w1.heap.size w1 W1 := by rw [hW1]; go_grown
      have y1 : CirV W1 (.agg #[.int .i64 (ni : Int), .slice sn A.next.length cn, .slice sg A.gates.length cg, .slice so A.outs.length co]) A := by
        have h := own_cv (own_cbelow H1.out.1 hb1)
        rw [hni] at h; exact h
      have y2 : CirV W1 (.agg #[.int .i64 (ni : Int), .slice tn A.next.length dn, .slice tg B.gates.length dg, .slice to_ A.outs.length do_]) B := by
        have h := own_cv (own_cbelow H1.out.2.1 hb1)
        rw [← s1, ← s2, ← s3, hni] at h; exact h
      have y3 : W1.heap[X]? = some (.cells #[.int .i64 (ni : Int), .slice sn A.next.length cn, .slice sg A.gates.length cg, .slice so A.outs.length co] 26 (0, 0)) := by rw [hW1, hX]; exact blk_old (blk_new _ _)
      have y4 : W1.heap[X + 1]? = some (.cells #[.int .i64 (ni : Int), .slice tn A.next.length dn, .slice tg B.gates.length dg, .slice to_ A.outs.length do_] 26 (0, 0)) := by rw [hW1, hX]; exact blk_at (by simp)
      have y5 := H1.out.2.2.trans (hb1.mono H1.out.2.2.size)
      have y6 : (Sl W1 sn (ints A.next) ∧ Sl W1 so (ints A.outs)) ∧ Sl W1 tn (ints B.next) ∧ Sl W1 to_ (ints B.outs) := ⟨⟨own_sl (own_below H1.out.1.n hb1), own_sl (own_below H1.out.1.o hb1)⟩, own_sl (own_below H1.out.2.1.n hb1), own_sl (own_below H1.out.2.1.o hb1)⟩
      have HC : Hid (∀ W, Below W1.heap.size W1 W → CirV W (.agg #[.int .i64 (ni : Int), .slice sn A.next.length cn, .slice sg A.gates.length cg, .slice so A.outs.length co]) A ∧ CirV W (.agg #[.int .i64 (ni : Int), .slice tn A.next.length dn, .slice tg B.gates.length dg, .slice to_ A.outs.length do_]) B ∧ ((∀ o, W.cell? ⟨X, o, none⟩ = #[Value.int .i64 (ni : Int), .slice sn A.next.length cn, .slice sg A.gates.length cg, .slice so A.outs.length co][o]?) ∧ (∀ o, W.cell? ⟨X + 1, o, none⟩ = #[Value.int .i64 (ni : Int), .slice tn A.next.length dn, .slice tg B.gates.length dg, .slice to_ A.outs.length do_][o]?)) ∧ Below w.heap.size w W) := fun W hW =>
        ⟨y1.mono hW, y2.mono hW, ⟨(blk_all (blk_below hW (blk_lt y3) y3)).1, (blk_all (blk_below hW (blk_lt y4) y4)).1⟩, y5.trans (hW.mono y5.size)⟩
      have HSS : Hid (∀ W, Below W1.heap.size W1 W → (Sl W sn (ints A.next) ∧ Sl W so (ints A.outs)) ∧ Sl W tn (ints B.next) ∧ Sl W to_ (ints B.outs)) := fun W hW => ⟨⟨y6.1.1.mono hW, y6.1.2.mono hW⟩, y6.2.1.mono hW, y6.2.2.mono hW⟩
      rw [← hW1, ← hX]
      clear hW1 hX hb1 y1 y2 y3 y4 y5 y6 H1 HD
      have H1 := Lib.hid (Below.refl W1.heap.size W1)
      obtain ⟨ca, cb⟩ := (HC.out _ H1.out).2.2.1
      clear va vb s1 s2 s3 hva hvb hni hEQ hE hs
      have hcol : True := trivial
      cases E
      all_goals
        go_upto_region 11 with (first
        | (go_at_call 23; (with_reducible refine (Equivalent_i _ _ A B _ (HC.out _ H1.out).1 (HC.out _ H1.out).2.1).mono ?_); rintro e w2 ⟨rfl, hq⟩; rw [HE.out]; have H1 := Lib.hid (H1.out.trans (hq.mono H1.out.size)); clear hq ca cb; obtain ⟨ca, cb⟩ := (HC.out _ H1.out).2.2.1)
        | (go_at_call 24; (with_reducible refine (Equivalent_s _ _ A B _ (HC.out _ H1.out).1 (HC.out _ H1.out).2.1).mono ?_); rintro e w3 ⟨rfl, hq⟩; rw [HE.out]; have H1 := Lib.hid (H1.out.trans (hq.mono H1.out.size)); clear hq ca cb; obtain ⟨ca, cb⟩ := (HC.out _ H1.out).2.2.1)
        | (go_at_call 25; (with_reducible refine (SameInterface_s _ _ A B _ (HC.out _ H1.out).1 (HC.out _ H1.out).2.1).mono ?_); rintro e w4 ⟨rfl, hq⟩; rw [HF.out]; have H1 := Lib.hid (H1.out.trans (hq.mono H1.out.size)); clear hq ca cb; obtain ⟨ca, cb⟩ := (HC.out _ H1.out).2.2.1)
        | (go_at_call 12; (with_reducible refine (aliveR_any _).mono ?_); rintro e w7 ⟨rfl, hq⟩; have H1 := Lib.hid (H1.out.trans (hq.mono H1.out.size)); clear hq ca cb; obtain ⟨ca, cb⟩ := (HC.out _ H1.out).2.2.1))
        clear ca cb
        go_loopw [7, 6] (fun i q wr => ∃ (k : Nat) (z : Bool), k ≤ A.outs.length ∧ i = .int .i64 k ∧ q = .bool z ∧ (z = true ↔ agB A B A.outs B.outs k) ∧ Below W1.heap.size W1 wr) (fun i _ _ => A.outs.length - (intOf i).toNat)
        case atStart => exact ⟨0, _, Nat.zero_le _, rfl, rfl, ⟨fun _ => agB_zero _ _ _ _, fun _ => rfl⟩, H1.out⟩
        case round =>
          obtain ⟨k, z, hk, rfl, rfl, hz, hbl⟩ := hrel
          have HZ := Lib.hid (And.intro hz hbl)
          clear hz hbl
          obtain ⟨ca, cb⟩ := (HC.out _ HZ.out.2).2.2.1
          by_cases hlt : k < A.outs.length
          · obtain ⟨l, hl⟩ := get_of_lt (l := A.outs) (k := k) hlt
            obtain ⟨m, hm⟩ := get_of_lt (l := B.outs) (k := k) (by have := HL.out; omega)
            have hlb := HLIT.out.1 l (by simp [List.mem_of_getElem? hl])
            have hmb := HLIT.out.2 m (by simp [List.mem_of_getElem? hm])
            obtain ⟨l0, l1⟩ := hlb
            obtain ⟨m0, m1⟩ := hmb
            obtain ⟨b, hbb⟩ := ex_bool (bdR A l = bdR B m)
            obtain ⟨bl, ol, rfl, hbw1, z1⟩ := ((HSS.out _ HZ.out.2).1.2).int (Below.refl _ _) hl
            obtain ⟨bm, om, rfl, hbw2, z2⟩ := ((HSS.out _ HZ.out.2).2.2).int (Below.refl _ _) hm
            have HLM := Lib.hid (And.intro hl (And.intro hm hbb))
            obtain ⟨d, hd⟩ : ∃ d, d = bdR A l := ⟨_, rfl⟩
            obtain ⟨d2, hd2⟩ : ∃ d2, d2 = bdR B m := ⟨_, rfl⟩
            have hdl : d.nodes.length ≤ 200 := by rw [hd]; exact bdR_len A l
            have hdl2 : d2.nodes.length ≤ 200 := by rw [hd2]; exact bdR_len B m
            have hdr : 0 ≤ d.root ∧ d.root ≤ 200 := by rw [hd]; exact bdR_root A l
            have hdr2 : 0 ≤ d2.root ∧ d2.root ≤ 200 := by rw [hd2]; exact bdR_root B m
            obtain ⟨hdr1, hdr2a⟩ := hdr
            obtain ⟨hdr21, hdr22⟩ := hdr2
            have HCC : Hid (∀ W, Below wr.heap.size wr W → ((∀ o, W.cell? ⟨X, o, none⟩ = #[Value.int .i64 (ni : Int), .slice sn A.next.length cn, .slice sg A.gates.length cg, .slice (some ⟨bl, ol, none⟩) A.outs.length co][o]?) ∧ (∀ o, W.cell? ⟨X + 1, o, none⟩ = #[Value.int .i64 (ni : Int), .slice tn A.next.length dn, .slice tg B.gates.length dg, .slice (some ⟨bm, om, none⟩) A.outs.length do_][o]?)) ∧ (W.cell? ⟨bl, ol + k, none⟩ = some (.int .i64 l) ∧ W.cell? ⟨bm, om + k, none⟩ = some (.int .i64 m)) ∧ Below W1.heap.size W1 W) := fun W hW =>
              ⟨(HC.out _ (HZ.out.2.trans (hW.mono HZ.out.2.size))).2.2.1, ⟨(hW.cell (p := ⟨bl, ol + k, none⟩) hbw1).trans z1, (hW.cell (p := ⟨bm, om + k, none⟩) hbw2).trans z2⟩, HZ.out.2.trans (hW.mono HZ.out.2.size)⟩
            have HDD := Lib.hid (And.intro hd hd2)
            clear hl hm hbb z1 z2 hbw1 hbw2 hd hd2
            go_upto_region 13 with fail
            clear ca cb
            cases z
            · refine wp_region_T (fun w' => ((∀ o, w'.cell? ⟨X, o, none⟩ = #[Value.int .i64 (ni : Int), .slice sn A.next.length cn, .slice sg A.gates.length cg, .slice (some ⟨bl, ol, none⟩) A.outs.length co][o]?) ∧ (∀ o, w'.cell? ⟨X + 1, o, none⟩ = #[Value.int .i64 (ni : Int), .slice tn A.next.length dn, .slice tg B.gates.length dg, .slice (some ⟨bm, om, none⟩) A.outs.length do_][o]?)) ∧ (w'.cell? ⟨bl, ol + k, none⟩ = some (.int .i64 l) ∧ w'.cell? ⟨bm, om + k, none⟩ = some (.int .i64 m))) (.q 0 (.q 1 (.q 2 (.q 3 (.q 4 (.q 5 (.q 6 (.q 7 (.q 9 (.q 10 (.q 11 (.q 12 (.q 13 (.q 14 (.q 8 (.q 15 (.q 16 (.q 17 (.q 18 .nil))))))))))))))))))) (by kernel_rfl) (by kernel_rfl) (by kernel_rfl) ⟨(HCC.out _ (Below.refl _ _).drew).1, (HCC.out _ (Below.refl _ _).drew).2.1⟩ ?_
              have hd := (Below.refl wr.heap.size wr).drew
              revert hd
              generalize wr.drew = Wd
              intro hd
              have HBD := Lib.hid hd
              clear hd
              obtain ⟨⟨ca, cb⟩, z1, z2⟩ := And.intro (HCC.out _ HBD.out).1 (HCC.out _ HBD.out).2.1
              repeat (first | (refine ordt_s (o := ?_) ?_ ?_ ?_; rotate_left 1; (focus ((simp only [zD, zE, zF]) <;> rfl)); (focus rfl); simp only [Act.put, zA, zB, zC]) | (refine ordt_q (o := ?_) (v := ?_) ?_ ?_ ?_ ?_; rotate_left 2; (focus ((simp only [zD, zE, zF]) <;> rfl)); (focus rfl); (focus (intro w' hS; (try dsimp only at hS); go_split_ands; go_simp; (try (with_reducible rfl)))); simp only [Act.put, zA, zB, zC]))
              refine ordt_nil ?_
              clear ca cb z1 z2
              go_wp2_with fail
              go_roundw
              case rel =>
                have hzz : false = true ↔ agB A B A.outs B.outs (k + 1) := by
                  have h := HZ.out.1
                  have h2 := agB_succ (a := A) (b := B) HLM.out.1 HLM.out.2.1
                  rw [h2]; exact ⟨fun e => (by cases e), fun e => h.2 e.1⟩
                exact ⟨k + 1, false, by omega, by go_num, rfl, hzz, (HCC.out _ HBD.out).2.2⟩
              case measure => simp [intOf]; omega
            · refine wp_region_T (fun w' => ((∀ o, w'.cell? ⟨X, o, none⟩ = #[Value.int .i64 (ni : Int), .slice sn A.next.length cn, .slice sg A.gates.length cg, .slice (some ⟨bl, ol, none⟩) A.outs.length co][o]?) ∧ (∀ o, w'.cell? ⟨X + 1, o, none⟩ = #[Value.int .i64 (ni : Int), .slice tn A.next.length dn, .slice tg B.gates.length dg, .slice (some ⟨bm, om, none⟩) A.outs.length do_][o]?)) ∧ (w'.cell? ⟨bl, ol + k, none⟩ = some (.int .i64 l) ∧ w'.cell? ⟨bm, om + k, none⟩ = some (.int .i64 m))) (.q 0 (.q 1 (.q 2 (.q 3 (.q 4 (.q 5 (.q 6 (.q 7 (.q 9 (.q 10 (.q 11 (.q 12 (.q 13 (.q 14 (.e 8 (.e 15 (.e 16 (.q 17 (.q 18 .nil))))))))))))))))))) (by kernel_rfl) (by kernel_rfl) (by kernel_rfl) ⟨(HCC.out _ (Below.refl _ _).drew).1, (HCC.out _ (Below.refl _ _).drew).2.1⟩ ?_
              have hd := (Below.refl wr.heap.size wr).drew
              revert hd
              generalize wr.drew = Wd
              intro hd
              have HBD := Lib.hid hd
              clear hd
              obtain ⟨⟨ca, cb⟩, z1, z2⟩ := And.intro (HCC.out _ HBD.out).1 (HCC.out _ HBD.out).2.1
              repeat (first | (refine ordt_s (o := ?_) ?_ ?_ ?_; rotate_left 1; (focus ((simp only [zD, zE, zF]) <;> rfl)); (focus rfl); simp only [Act.put, zA, zB, zC]) | (refine ordt_q (o := ?_) (v := ?_) ?_ ?_ ?_ ?_; rotate_left 2; (focus ((simp only [zD, zE, zF]) <;> rfl)); (focus rfl); (focus (intro w' hS; (try dsimp only at hS); go_split_ands; go_simp; (try (with_reducible rfl)))); simp only [Act.put, zA, zB, zC]))
              refine ordt_e ?_
              (refine op_e (o := ?_) ?_ ?_ (fun K hK => ?_); rotate_left 1; (focus ((simp only [zD, zE, zF]) <;> rfl)); (focus rfl); go_simp)
              with_reducible refine (BuildBdd_i _ A l _ (HC.out _ (HCC.out _ HBD.out).2.2).1 ⟨by omega, by omega⟩).mono ?_
              rintro e w5 ⟨s5, c5, rfl, h5, hq⟩
              rw [← HDD.out.1] at h5 ⊢
              have H5 := Lib.hid (And.intro (own_sl h5) (HBD.out.trans (hq.mono HBD.out.size)))
              clear h5 hq ca cb z1 z2
              obtain ⟨⟨ca, cb⟩, z1, z2⟩ := And.intro (HCC.out _ H5.out.2).1 (HCC.out _ H5.out.2).2.1
              refine hK.out _ _ ⟨⟨ca, cb⟩, z1, z2⟩ ?_
              clear hK K
              (try simp only [Act.put, zA, zB, zC])
              repeat (first | (refine ordt_s (o := ?_) ?_ ?_ ?_; rotate_left 1; (focus ((simp only [zD, zE, zF]) <;> rfl)); (focus rfl); simp only [Act.put, zA, zB, zC]) | (refine ordt_q (o := ?_) (v := ?_) ?_ ?_ ?_ ?_; rotate_left 2; (focus ((simp only [zD, zE, zF]) <;> rfl)); (focus rfl); (focus (intro w' hS; (try dsimp only at hS); go_split_ands; go_simp; (try (with_reducible rfl)))); simp only [Act.put, zA, zB, zC]))
              refine ordt_e ?_
              (refine op_e (o := ?_) ?_ ?_ (fun K hK => ?_); rotate_left 1; (focus ((simp only [zD, zE, zF]) <;> rfl)); (focus rfl); go_simp)
              with_reducible refine (BuildBdd_i _ B m _ (HC.out _ (HCC.out _ H5.out.2).2.2).2.1 ⟨by omega, by omega⟩).mono ?_
              rintro e w6 ⟨s6, c6, rfl, h6, hq⟩
              rw [← HDD.out.2] at h6 ⊢
              have H6 := Lib.hid (And.intro (own_sl h6) (And.intro (H5.out.1.mono hq) (H5.out.2.trans (hq.mono H5.out.2.size))))
              clear h6 hq ca cb z1 z2
              obtain ⟨⟨ca, cb⟩, z1, z2⟩ := And.intro (HCC.out _ H6.out.2.2).1 (HCC.out _ H6.out.2.2).2.1
              refine hK.out _ _ ⟨⟨ca, cb⟩, z1, z2⟩ ?_
              clear hK K
              (try simp only [Act.put, zA, zB, zC])
              repeat (first | (refine ordt_s (o := ?_) ?_ ?_ ?_; rotate_left 1; (focus ((simp only [zD, zE, zF]) <;> rfl)); (focus rfl); simp only [Act.put, zA, zB, zC]) | (refine ordt_q (o := ?_) (v := ?_) ?_ ?_ ?_ ?_; rotate_left 2; (focus ((simp only [zD, zE, zF]) <;> rfl)); (focus rfl); (focus (intro w' hS; (try dsimp only at hS); go_split_ands; go_simp; (try (with_reducible rfl)))); simp only [Act.put, zA, zB, zC]))
              refine ordt_e ?_
              (refine op_e (o := ?_) ?_ ?_ (fun K hK => ?_); rotate_left 1; (focus ((simp only [zD, zE, zF]) <;> rfl)); (focus rfl); go_simp)
              with_reducible refine (sameBdd_any s5 s6 c5 c6 d d2 b _ H6.out.2.1 H6.out.1 (by omega) (by omega) ⟨by omega, by omega⟩ ⟨by omega, by omega⟩ (by rw [HDD.out.1, HDD.out.2]; exact HLM.out.2.2)).mono ?_
              rintro e w7 ⟨rfl, hq⟩
              have H7 := Lib.hid (H6.out.2.2.trans (hq.mono H6.out.2.2.size))
              clear hq ca cb z1 z2
              obtain ⟨⟨ca, cb⟩, z1, z2⟩ := And.intro (HCC.out _ H7.out).1 (HCC.out _ H7.out).2.1
              refine hK.out _ _ ⟨⟨ca, cb⟩, z1, z2⟩ ?_
              clear hK K
              (try simp only [Act.put, zA, zB, zC])
              repeat (first | (refine ordt_s (o := ?_) ?_ ?_ ?_; rotate_left 1; (focus ((simp only [zD, zE, zF]) <;> rfl)); (focus rfl); simp only [Act.put, zA, zB, zC]) | (refine ordt_q (o := ?_) (v := ?_) ?_ ?_ ?_ ?_; rotate_left 2; (focus ((simp only [zD, zE, zF]) <;> rfl)); (focus rfl); (focus (intro w' hS; (try dsimp only at hS); go_split_ands; go_simp; (try (with_reducible rfl)))); simp only [Act.put, zA, zB, zC]))
              refine ordt_nil ?_
              clear ca cb z1 z2
              go_wp2_with fail
              go_roundw
              case rel =>
                have hzz : b = true ↔ agB A B A.outs B.outs (k + 1) := by
                  have h := HZ.out.1
                  have h2 := agB_succ (a := A) (b := B) HLM.out.1 HLM.out.2.1
                  have h3 := HLM.out.2.2
                  rw [h2, h3]; exact ⟨fun e => ⟨h.1 rfl, e⟩, fun e => e.2⟩
                exact ⟨k + 1, b, by omega, by go_num, rfl, hzz, (HCC.out _ H7.out).2.2⟩
              case measure => simp [intOf]; omega
          · obtain rfl : k = A.outs.length := by omega
            have HZ1 := HZ
            have H1 := Lib.hid HZ.out.2
            clear HZ hlt hk
            go_upto_region 15 with fail
            clear ca cb
            go_loopw [8, 6] (fun i q wr => ∃ (k : Nat) (z : Bool), k ≤ A.next.length ∧ i = .int .i64 k ∧ q = .bool z ∧ (z = true ↔ agB A B A.outs B.outs A.outs.length ∧ agB A B A.next B.next k) ∧ Below W1.heap.size W1 wr) (fun i _ _ => A.next.length - (intOf i).toNat)
            case atStart => exact ⟨0, _, Nat.zero_le _, rfl, rfl, ⟨fun h => ⟨HZ1.out.1.1 h, agB_zero _ _ _ _⟩, fun h => HZ1.out.1.2 h.1⟩, H1.out⟩
            case round =>
              obtain ⟨k, z, hk, rfl, rfl, hz, hbl⟩ := hrel
              have HZ := Lib.hid (And.intro hz hbl)
              clear hz hbl
              obtain ⟨ca, cb⟩ := (HC.out _ HZ.out.2).2.2.1
              by_cases hlt : k < A.next.length
              · obtain ⟨l, hl⟩ := get_of_lt (l := A.next) (k := k) hlt
                obtain ⟨m, hm⟩ := get_of_lt (l := B.next) (k := k) (by have := HL.out; omega)
                have hlb := HLIT.out.1 l (by simp [List.mem_of_getElem? hl])
                have hmb := HLIT.out.2 m (by simp [List.mem_of_getElem? hm])
                obtain ⟨l0, l1⟩ := hlb
                obtain ⟨m0, m1⟩ := hmb
                obtain ⟨b, hbb⟩ := ex_bool (bdR A l = bdR B m)
                obtain ⟨bl, ol, rfl, hbw1, z1⟩ := ((HSS.out _ HZ.out.2).1.1).int (Below.refl _ _) hl
                obtain ⟨bm, om, rfl, hbw2, z2⟩ := ((HSS.out _ HZ.out.2).2.1).int (Below.refl _ _) hm
                have HLM := Lib.hid (And.intro hl (And.intro hm hbb))
                obtain ⟨d, hd⟩ : ∃ d, d = bdR A l := ⟨_, rfl⟩
                obtain ⟨d2, hd2⟩ : ∃ d2, d2 = bdR B m := ⟨_, rfl⟩
                have hdl : d.nodes.length ≤ 200 := by rw [hd]; exact bdR_len A l
                have hdl2 : d2.nodes.length ≤ 200 := by rw [hd2]; exact bdR_len B m
                have hdr : 0 ≤ d.root ∧ d.root ≤ 200 := by rw [hd]; exact bdR_root A l
                have hdr2 : 0 ≤ d2.root ∧ d2.root ≤ 200 := by rw [hd2]; exact bdR_root B m
                obtain ⟨hdr1, hdr2a⟩ := hdr
                obtain ⟨hdr21, hdr22⟩ := hdr2
                have HCC : Hid (∀ W, Below wr.heap.size wr W → ((∀ o, W.cell? ⟨X, o, none⟩ = #[Value.int .i64 (ni : Int), .slice (some ⟨bl, ol, none⟩) A.next.length cn, .slice sg A.gates.length cg, .slice so A.outs.length co][o]?) ∧ (∀ o, W.cell? ⟨X + 1, o, none⟩ = #[Value.int .i64 (ni : Int), .slice (some ⟨bm, om, none⟩) A.next.length dn, .slice tg B.gates.length dg, .slice to_ A.outs.length do_][o]?)) ∧ (W.cell? ⟨bl, ol + k, none⟩ = some (.int .i64 l) ∧ W.cell? ⟨bm, om + k, none⟩ = some (.int .i64 m)) ∧ Below W1.heap.size W1 W) := fun W hW =>
                  ⟨(HC.out _ (HZ.out.2.trans (hW.mono HZ.out.2.size))).2.2.1, ⟨(hW.cell (p := ⟨bl, ol + k, none⟩) hbw1).trans z1, (hW.cell (p := ⟨bm, om + k, none⟩) hbw2).trans z2⟩, HZ.out.2.trans (hW.mono HZ.out.2.size)⟩
                have HDD := Lib.hid (And.intro hd hd2)
                clear hl hm hbb z1 z2 hbw1 hbw2 hd hd2
                go_upto_region 17 with fail
                clear ca cb
                cases z
                · refine wp_region_T (fun w' => ((∀ o, w'.cell? ⟨X, o, none⟩ = #[Value.int .i64 (ni : Int), .slice (some ⟨bl, ol, none⟩) A.next.length cn, .slice sg A.gates.length cg, .slice so A.outs.length co][o]?) ∧ (∀ o, w'.cell? ⟨X + 1, o, none⟩ = #[Value.int .i64 (ni : Int), .slice (some ⟨bm, om, none⟩) A.next.length dn, .slice tg B.gates.length dg, .slice to_ A.outs.length do_][o]?)) ∧ (w'.cell? ⟨bl, ol + k, none⟩ = some (.int .i64 l) ∧ w'.cell? ⟨bm, om + k, none⟩ = some (.int .i64 m))) (.q 0 (.q 1 (.q 2 (.q 3 (.q 4 (.q 5 (.q 6 (.q 7 (.q 9 (.q 10 (.q 11 (.q 12 (.q 13 (.q 14 (.q 8 (.q 15 (.q 16 (.q 17 (.q 18 .nil))))))))))))))))))) (by kernel_rfl) (by kernel_rfl) (by kernel_rfl) ⟨(HCC.out _ (Below.refl _ _).drew).1, (HCC.out _ (Below.refl _ _).drew).2.1⟩ ?_
                  have hd := (Below.refl wr.heap.size wr).drew
                  revert hd
                  generalize wr.drew = Wd
                  intro hd
                  have HBD := Lib.hid hd
                  clear hd
                  obtain ⟨⟨ca, cb⟩, z1, z2⟩ := And.intro (HCC.out _ HBD.out).1 (HCC.out _ HBD.out).2.1
                  repeat (first | (refine ordt_s (o := ?_) ?_ ?_ ?_; rotate_left 1; (focus ((simp only [zD, zE, zF]) <;> rfl)); (focus rfl); simp only [Act.put, zA, zB, zC]) | (refine ordt_q (o := ?_) (v := ?_) ?_ ?_ ?_ ?_; rotate_left 2; (focus ((simp only [zD, zE, zF]) <;> rfl)); (focus rfl); (focus (intro w' hS; (try dsimp only at hS); go_split_ands; go_simp; (try (with_reducible rfl)))); simp only [Act.put, zA, zB, zC]))
                  refine ordt_nil ?_
                  clear ca cb z1 z2
                  go_wp2_with fail
                  go_roundw
                  case rel =>
                    have hzz : false = true ↔ agB A B A.outs B.outs A.outs.length ∧ agB A B A.next B.next (k + 1) := by
                      have h := HZ.out.1
                      have h2 := agB_succ (a := A) (b := B) HLM.out.1 HLM.out.2.1
                      rw [h2]; exact ⟨fun e => (by cases e), fun e => h.2 ⟨e.1, e.2.1⟩⟩
                    exact ⟨k + 1, false, by omega, by go_num, rfl, hzz, (HCC.out _ HBD.out).2.2⟩
                  case measure => simp [intOf]; omega
                · refine wp_region_T (fun w' => ((∀ o, w'.cell? ⟨X, o, none⟩ = #[Value.int .i64 (ni : Int), .slice (some ⟨bl, ol, none⟩) A.next.length cn, .slice sg A.gates.length cg, .slice so A.outs.length co][o]?) ∧ (∀ o, w'.cell? ⟨X + 1, o, none⟩ = #[Value.int .i64 (ni : Int), .slice (some ⟨bm, om, none⟩) A.next.length dn, .slice tg B.gates.length dg, .slice to_ A.outs.length do_][o]?)) ∧ (w'.cell? ⟨bl, ol + k, none⟩ = some (.int .i64 l) ∧ w'.cell? ⟨bm, om + k, none⟩ = some (.int .i64 m))) (.q 0 (.q 1 (.q 2 (.q 3 (.q 4 (.q 5 (.q 6 (.q 7 (.q 9 (.q 10 (.q 11 (.q 12 (.q 13 (.q 14 (.e 8 (.e 15 (.e 16 (.q 17 (.q 18 .nil))))))))))))))))))) (by kernel_rfl) (by kernel_rfl) (by kernel_rfl) ⟨(HCC.out _ (Below.refl _ _).drew).1, (HCC.out _ (Below.refl _ _).drew).2.1⟩ ?_
                  have hd := (Below.refl wr.heap.size wr).drew
                  revert hd
                  generalize wr.drew = Wd
                  intro hd
                  have HBD := Lib.hid hd
                  clear hd
                  obtain ⟨⟨ca, cb⟩, z1, z2⟩ := And.intro (HCC.out _ HBD.out).1 (HCC.out _ HBD.out).2.1
                  repeat (first | (refine ordt_s (o := ?_) ?_ ?_ ?_; rotate_left 1; (focus ((simp only [zD, zE, zF]) <;> rfl)); (focus rfl); simp only [Act.put, zA, zB, zC]) | (refine ordt_q (o := ?_) (v := ?_) ?_ ?_ ?_ ?_; rotate_left 2; (focus ((simp only [zD, zE, zF]) <;> rfl)); (focus rfl); (focus (intro w' hS; (try dsimp only at hS); go_split_ands; go_simp; (try (with_reducible rfl)))); simp only [Act.put, zA, zB, zC]))
                  refine ordt_e ?_
                  (refine op_e (o := ?_) ?_ ?_ (fun K hK => ?_); rotate_left 1; (focus ((simp only [zD, zE, zF]) <;> rfl)); (focus rfl); go_simp)
                  with_reducible refine (BuildBdd_i _ A l _ (HC.out _ (HCC.out _ HBD.out).2.2).1 ⟨by omega, by omega⟩).mono ?_
                  rintro e w5 ⟨s5, c5, rfl, h5, hq⟩
                  rw [← HDD.out.1] at h5 ⊢
                  have H5 := Lib.hid (And.intro (own_sl h5) (HBD.out.trans (hq.mono HBD.out.size)))
                  clear h5 hq ca cb z1 z2
                  obtain ⟨⟨ca, cb⟩, z1, z2⟩ := And.intro (HCC.out _ H5.out.2).1 (HCC.out _ H5.out.2).2.1
                  refine hK.out _ _ ⟨⟨ca, cb⟩, z1, z2⟩ ?_
                  clear hK K
                  (try simp only [Act.put, zA, zB, zC])
                  repeat (first | (refine ordt_s (o := ?_) ?_ ?_ ?_; rotate_left 1; (focus ((simp only [zD, zE, zF]) <;> rfl)); (focus rfl); simp only [Act.put, zA, zB, zC]) | (refine ordt_q (o := ?_) (v := ?_) ?_ ?_ ?_ ?_; rotate_left 2; (focus ((simp only [zD, zE, zF]) <;> rfl)); (focus rfl); (focus (intro w' hS; (try dsimp only at hS); go_split_ands; go_simp; (try (with_reducible rfl)))); simp only [Act.put, zA, zB, zC]))
                  refine ordt_e ?_
                  (refine op_e (o := ?_) ?_ ?_ (fun K hK => ?_); rotate_left 1; (focus ((simp only [zD, zE, zF]) <;> rfl)); (focus rfl); go_simp)
                  with_reducible refine (BuildBdd_i _ B m _ (HC.out _ (HCC.out _ H5.out.2).2.2).2.1 ⟨by omega, by omega⟩).mono ?_
                  rintro e w6 ⟨s6, c6, rfl, h6, hq⟩
                  rw [← HDD.out.2] at h6 ⊢
                  have H6 := Lib.hid (And.intro (own_sl h6) (And.intro (H5.out.1.mono hq) (H5.out.2.trans (hq.mono H5.out.2.size))))
                  clear h6 hq ca cb z1 z2
                  obtain ⟨⟨ca, cb⟩, z1, z2⟩ := And.intro (HCC.out _ H6.out.2.2).1 (HCC.out _ H6.out.2.2).2.1
                  refine hK.out _ _ ⟨⟨ca, cb⟩, z1, z2⟩ ?_
                  clear hK K
                  (try simp only [Act.put, zA, zB, zC])
                  repeat (first | (refine ordt_s (o := ?_) ?_ ?_ ?_; rotate_left 1; (focus ((simp only [zD, zE, zF]) <;> rfl)); (focus rfl); simp only [Act.put, zA, zB, zC]) | (refine ordt_q (o := ?_) (v := ?_) ?_ ?_ ?_ ?_; rotate_left 2; (focus ((simp only [zD, zE, zF]) <;> rfl)); (focus rfl); (focus (intro w' hS; (try dsimp only at hS); go_split_ands; go_simp; (try (with_reducible rfl)))); simp only [Act.put, zA, zB, zC]))
                  refine ordt_e ?_
                  (refine op_e (o := ?_) ?_ ?_ (fun K hK => ?_); rotate_left 1; (focus ((simp only [zD, zE, zF]) <;> rfl)); (focus rfl); go_simp)
                  with_reducible refine (sameBdd_any s5 s6 c5 c6 d d2 b _ H6.out.2.1 H6.out.1 (by omega) (by omega) ⟨by omega, by omega⟩ ⟨by omega, by omega⟩ (by rw [HDD.out.1, HDD.out.2]; exact HLM.out.2.2)).mono ?_
                  rintro e w7 ⟨rfl, hq⟩
                  have H7 := Lib.hid (H6.out.2.2.trans (hq.mono H6.out.2.2.size))
                  clear hq ca cb z1 z2
                  obtain ⟨⟨ca, cb⟩, z1, z2⟩ := And.intro (HCC.out _ H7.out).1 (HCC.out _ H7.out).2.1
                  refine hK.out _ _ ⟨⟨ca, cb⟩, z1, z2⟩ ?_
                  clear hK K
                  (try simp only [Act.put, zA, zB, zC])
                  repeat (first | (refine ordt_s (o := ?_) ?_ ?_ ?_; rotate_left 1; (focus ((simp only [zD, zE, zF]) <;> rfl)); (focus rfl); simp only [Act.put, zA, zB, zC]) | (refine ordt_q (o := ?_) (v := ?_) ?_ ?_ ?_ ?_; rotate_left 2; (focus ((simp only [zD, zE, zF]) <;> rfl)); (focus rfl); (focus (intro w' hS; (try dsimp only at hS); go_split_ands; go_simp; (try (with_reducible rfl)))); simp only [Act.put, zA, zB, zC]))
                  refine ordt_nil ?_
                  clear ca cb z1 z2
                  go_wp2_with fail
                  go_roundw
                  case rel =>
                    have hzz : b = true ↔ agB A B A.outs B.outs A.outs.length ∧ agB A B A.next B.next (k + 1) := by
                      have h := HZ.out.1
                      have h2 := agB_succ (a := A) (b := B) HLM.out.1 HLM.out.2.1
                      have h3 := HLM.out.2.2
                      rw [h2, h3]; exact ⟨fun e => ⟨(h.1 rfl).1, (h.1 rfl).2, e⟩, fun e => e.2.2⟩
                    exact ⟨k + 1, b, by omega, by go_num, rfl, hzz, (HCC.out _ H7.out).2.2⟩
                  case measure => simp [intOf]; omega
              · obtain rfl : k = A.next.length := by omega
                have hEz : equivB A B = z := by
                  have h := HZ.out.1
                  have h2 := HEQ.out
                  rw [← agB_all, ← agB_all] at h2
                  rw [HE.out, Bool.eq_iff_iff]
                  have h3 := h2.trans h.symm
                  simpa using h3
                rw [HE.out] at hEz
                subst hEz
                go_wp2_with fail
                go_ret
                exact ⟨ret_bool (by simp), (HC.out _ HZ.out.2).2.2.2⟩
  · clear hs hr
    go_enter Try.func5, Try.ntmps5
    go_wp2
    go_ret
    exact ⟨rfl, Below.refl _ _⟩

end Go.Proofs.Ytaboipnigeaopaa
