import Derived.Test.YtddmgphlhfilnaaN1
import Derived.Test.YtddmgphlhfilnaaL1
import Derived.Deep.DeepCutAuto
namespace Go.Proofs.Ytddmgphlhfilnaa
set_option linter.unusedVariables false
set_option linter.unusedSimpArgs false
open Go.RowKit

def basicP (i : Nat) (x : Nd) : Prop := 0 ≤ x.v ∧ x.v ≤ 6 ∧ 0 ≤ x.lo ∧ x.lo < i ∧ 0 ≤ x.hi ∧ x.hi < i ∧ x.lo ≠ x.hi
instance (i : Nat) (x : Nd) : Decidable (basicP i x) := inferInstanceAs (Decidable (_ ∧ _))
def freshP (ns : List Nd) (i : Nat) (x : Nd) : Prop := ∀ k, k < i → 2 ≤ k → ns[k]? ≠ some x
instance (ns : List Nd) (i : Nat) (x : Nd) : Decidable (freshP ns i x) := inferInstanceAs (Decidable (∀ k, k < i → _))
structure okAt (ns : List Nd) (i : Nat) (x : Nd) : Prop where
  basic : basicP i x
  lo : 1 < x.lo → x.v < (ns.getD x.lo.toNat default).v
  hi : 1 < x.hi → x.v < (ns.getD x.hi.toNat default).v
  fresh : freshP ns i x
instance (ns : List Nd) (i : Nat) (x : Nd) : Decidable (okAt ns i x) :=
  decidable_of_iff (basicP i x ∧ (1 < x.lo → x.v < (ns.getD x.lo.toNat default).v) ∧ (1 < x.hi → x.v < (ns.getD x.hi.toNat default).v) ∧ freshP ns i x) ⟨fun h => ⟨h.1, h.2.1, h.2.2.1, h.2.2.2⟩, fun h => ⟨h.1, h.2, h.3, h.4⟩⟩
def okTo (ns : List Nd) (n : Nat) : Prop := ∀ i, i < n → 2 ≤ i → okAt ns i (ns.getD i default)
instance (ns : List Nd) (n : Nat) : Decidable (okTo ns n) := inferInstanceAs (Decidable (∀ i, i < n → _))
structure Bd.head (d : Bd) : Prop where
  l2 : 2 ≤ d.nodes.length
  l1000 : d.nodes.length ≤ 1000
  r0 : 0 ≤ d.root
  r1 : d.root < d.nodes.length
  n0 : d.nodes[0]? = some ⟨0, 0, 0⟩
  n1 : d.nodes[1]? = some ⟨0, 0, 0⟩
instance (d : Bd) : Decidable d.head :=
  decidable_of_iff (2 ≤ d.nodes.length ∧ d.nodes.length ≤ 1000 ∧ 0 ≤ d.root ∧ d.root < d.nodes.length ∧ d.nodes[0]? = some ⟨0, 0, 0⟩ ∧ d.nodes[1]? = some ⟨0, 0, 0⟩) ⟨fun ⟨a, b, c, d, e, f⟩ => ⟨a, b, c, d, e, f⟩, fun ⟨a, b, c, d, e, f⟩ => ⟨a, b, c, d, e, f⟩⟩
def Bd.valid (d : Bd) : Prop := d.head ∧ okTo d.nodes d.nodes.length
instance (d : Bd) : Decidable d.valid := inferInstanceAs (Decidable (_ ∧ _))
def Bd.validB (d : Bd) : Bool := decide d.valid
theorem Bd.validB_iff (d : Bd) : d.validB = true ↔ d.valid := by simp [Bd.validB]
theorem Bd.validB_true {d : Bd} (h : d.valid) : d.validB = true := by simpa [Bd.validB] using h
theorem Bd.validB_false {d : Bd} (h : ¬ d.valid) : d.validB = false := by simpa [Bd.validB] using h
theorem getD_of {ns : List Nd} {k : Nat} {x : Nd} (h : ns[k]? = some x) : ns.getD k default = x := by simp [List.getD, h]
theorem okTo_snoc {ns : List Nd} {k : Nat} {x : Nd} (h : okTo ns k) (hx : ns[k]? = some x) (h1 : okAt ns k x) : okTo ns (k + 1) := by
  intro i hi h2
  by_cases e : i = k
  · subst e; rw [getD_of hx]; exact h1
  · exact h i (by omega) h2
theorem okTo_two (ns : List Nd) : okTo ns 2 := by intro i h1 h2; omega
theorem freshP_two (ns : List Nd) (x : Nd) : freshP ns 2 x := by intro i h1 h2; omega
theorem freshP_snoc {ns : List Nd} {k : Nat} {x y : Nd} (h : freshP ns k x) (hy : ns[k]? = some y) (h1 : y ≠ x) : freshP ns (k + 1) x := by
  intro i hi h2 e
  by_cases hk : i = k
  · subst hk; rw [hy] at e; cases e; exact h1 rfl
  · exact h i (by omega) h2 e
theorem validB_not {d : Bd} {k : Nat} {x : Nd} (hx : d.nodes[k]? = some x) (hk : 2 ≤ k) (h : ¬ okAt d.nodes k x) : false = d.validB := by
  refine (Bd.validB_false fun hv => h ?_).symm
  have := hv.2 k (List.getElem?_eq_some_iff.1 hx).1 hk
  rwa [getD_of hx] at this

theorem Sl.nodeAt {w wr : World} {b off : Nat} {gs : List Nd} (h : Sl w (some ⟨b, off, none⟩) (ncells gs)) (hbl : Below w.heap.size w wr) {k : Nat} {g : Nd} (hg : gs[k]? = some g) :
    b < w.heap.size ∧ wr.cell? ⟨b, off + k * 3, none⟩ = some (.int .i64 g.v) ∧ wr.cell? ⟨b, off + k * 3 + 1, none⟩ = some (.int .i64 g.lo) ∧ wr.cell? ⟨b, off + k * 3 + 2, none⟩ = some (.int .i64 g.hi) := by
  obtain ⟨b', off', e, h1, h2⟩ := h.node hbl hg
  simp only [Option.some.injEq, Addr.mk.injEq, and_true] at e
  obtain ⟨rfl, rfl⟩ := e
  exact ⟨h1, h2⟩

theorem l1In_yes (n lo hi : Int) (w : World) (h1 : lo ≤ n) (h2 : n ≤ hi) :
    Calls Try.prog 57 #[.int .i64 n, .int .i64 lo, .int .i64 hi] w fun e w' => e = .returned (.bool true) ∧ w = w' := by
  refine (l1In_any n lo hi w).mono ?_
  rintro e w' ⟨rfl, rfl⟩
  exact ⟨by simp [h1, h2], rfl⟩

set_option maxRecDepth 100000 in
set_option maxHeartbeats 1600000 in
theorem BddValid_s (v : Value) (d : Bd) (w : World) (h : BdV w v d) :
    Calls Try.prog 17 #[v] w fun e w' => e = .returned (.bool d.validB) ∧ Below w.heap.size w w' := by
  obtain ⟨sn, cn, rfl, h1, hl, -⟩ := h
  have hL : Below w.heap.size w (w.alloc (.cells #[.slice sn d.nodes.length cn, .int .i64 d.root] 25)) := by go_grown
  by_cases hlen : 2 ≤ d.nodes.length ∧ d.nodes.length ≤ 1000
  · obtain ⟨n0, hn0⟩ := get_of_lt (l := d.nodes) (k := 0) (by omega)
    obtain ⟨n1, hn1⟩ := get_of_lt (l := d.nodes) (k := 1) (by omega)
    obtain ⟨b, off, rfl, hbw, z1, z2, z3⟩ := h1.node hL hn0
    obtain ⟨-, z4, z5, z6⟩ := h1.nodeAt hL hn1
    simp only [Nat.zero_mul, Nat.one_mul, Nat.add_zero, Nat.zero_add] at z1 z2 z3 z4 z5 z6
    obtain ⟨hlen1, hlen2⟩ := hlen
    by_cases hh : d.head
    · obtain ⟨-, -, r0, r1, e0, e1⟩ := id hh
      rw [hn0] at e0; cases e0
      rw [hn1] at e1; cases e1
      have HS := Lib.hid (And.intro h1 (And.intro hh hL))
      clear h1 hn0 hn1 hL hh
      have hN := blk_new w (.cells #[.slice (some ⟨b, off, none⟩) d.nodes.length cn, .int .i64 d.root] 25)
      have HN := Lib.hid hN
      clear hN
      go_enter Try.func17, Try.ntmps17
      go_wp2_with (go_at_call 57; refine (l1In_yes _ _ _ _ (by omega) (by omega)).mono ?_; rintro e w' ⟨rfl, rfl⟩)
      go_loopw [3] (fun i wr => ∃ k : Nat, 2 ≤ k ∧ k ≤ d.nodes.length ∧ i = .int .i64 k ∧ okTo d.nodes k ∧ wr.heap[w.heap.size]? = some (.cells #[.slice (some ⟨b, off, none⟩) d.nodes.length cn, .int .i64 d.root] 25 (0, 0)) ∧ Below w.heap.size w wr) (fun i _ => d.nodes.length - (intOf i).toNat)
      case atStart => exact ⟨2, by omega, by omega, rfl, okTo_two _, HN.out, HS.out.2.2⟩
      case round =>
        obtain ⟨k, hk2, hk, rfl, hok, hbk, hbl⟩ := hrel
        have ca := (blk_all hbk).1
        have hsz := hbl.size
        have HB := Lib.hid (And.intro hbk (And.intro hbl hok))
        clear hbk hbl hok z1 z2 z3 z4 z5 z6
        by_cases hlt : k < d.nodes.length
        · obtain ⟨x, hx⟩ := get_of_lt hlt
          obtain ⟨-, z1, z2, z3⟩ := HS.out.1.nodeAt HB.out.2.1 hx
          have HX := Lib.hid hx
          clear hx
          by_cases hb : basicP k x
          · obtain ⟨xv, xlo, xhi⟩ := x
            have HBP := Lib.hid hb
            obtain ⟨p1, p2, p3, p4, p5, p6, p7⟩ := hb
            dsimp only at p1 p2 p3 p4 p5 p6 p7 z1 z2 z3
            obtain ⟨l, rfl⟩ : ∃ l : Nat, xlo = l := ⟨xlo.toNat, by omega⟩
            obtain ⟨m, rfl⟩ : ∃ m : Nat, xhi = m := ⟨xhi.toNat, by omega⟩
            obtain ⟨y, hy⟩ := get_of_lt (l := d.nodes) (k := l) (by omega)
            obtain ⟨z, hz⟩ := get_of_lt (l := d.nodes) (k := m) (by omega)
            obtain ⟨-, y1, -, -⟩ := HS.out.1.nodeAt HB.out.2.1 hy
            obtain ⟨-, y2, -, -⟩ := HS.out.1.nodeAt HB.out.2.1 hz
            have HY := Lib.hid (And.intro hy hz)
            clear hy hz
            have q7 : ((l : Int) == (m : Int)) = false := beq_eq_false_iff_ne.2 p7
            go_wp2_with (go_at_call 57; refine (l1In_yes _ _ _ _ (by omega) (by omega)).mono ?_; rintro e w' ⟨rfl, rfl⟩)
            have hbA : Below w.heap.size w (wr.alloc (.cells #[.int .i64 xv, .int .i64 (l : Int), .int .i64 (m : Int)] 29)) := HB.out.2.1.alloc HB.out.2.1.size _
            have hbk := blk_old (o := .cells #[.int .i64 xv, .int .i64 (l : Int), .int .i64 (m : Int)] 29) HB.out.1
            have hbn := blk_new wr (.cells #[.int .i64 xv, .int .i64 (l : Int), .int .i64 (m : Int)] 29)
            clear y1 y2 z1 z2 z3 ca hsz
            revert hbA hbk hbn
            generalize wr.alloc (.cells #[.int .i64 xv, .int .i64 (l : Int), .int .i64 (m : Int)] 29) = W0
            intro hbA hbk hbn
            have c0 : W0.cell? ⟨w.heap.size, 0, none⟩ = some (.slice (some ⟨b, off, none⟩) d.nodes.length cn) := blk_cell hbk
            have e0 : W0.cell? ⟨wr.heap.size, 0, none⟩ = some (.int .i64 xv) := blk_cell hbn
            have e1 : W0.cell? ⟨wr.heap.size, 1, none⟩ = some (.int .i64 (l : Int)) := blk_cell hbn
            have e2 : W0.cell? ⟨wr.heap.size, 2, none⟩ = some (.int .i64 (m : Int)) := blk_cell hbn
            obtain ⟨-, y1, -, -⟩ := HS.out.1.nodeAt hbA HY.out.1
            obtain ⟨-, y2, -, -⟩ := HS.out.1.nodeAt hbA HY.out.2
            have HW := Lib.hid (And.intro hbA (And.intro hbk hbn))
            clear hbA hbk hbn
            have hcs : (decide ((1 : Int) < (l : Int)) = true ∧ decide (y.v ≤ xv) = true) ∨ ((decide ((1 : Int) < (l : Int)) = false ∨ (decide ((1 : Int) < (l : Int)) = true ∧ decide (y.v ≤ xv) = false)) ∧ (decide ((1 : Int) < (m : Int)) = false ∨ (decide ((1 : Int) < (m : Int)) = true ∧ decide (z.v ≤ xv) = false) ∨ (decide ((1 : Int) < (m : Int)) = true ∧ decide (z.v ≤ xv) = true))) := by
              cases decide ((1 : Int) < (l : Int)) <;> cases decide (y.v ≤ xv) <;> cases decide ((1 : Int) < (m : Int)) <;> cases decide (z.v ≤ xv) <;> simp
            have HCS := Lib.hid hcs
            clear hcs
            obtain ⟨bad, hbad⟩ : ∃ bad : Bool, bad = decide ((1 < l ∧ y.v ≤ xv) ∨ (1 < m ∧ z.v ≤ xv)) := ⟨_, rfl⟩
            have HBad := Lib.hid hbad
            clear hbad
            go_cut [112] from 81 to 112 (fun c wx => c = .bool bad ∧ Drew W0 wx)
            case first =>
              rcases HCS.out with ⟨hA, hB⟩ | ⟨hA | ⟨hA, hB⟩, hC | ⟨hC, hD⟩ | ⟨hC, hD⟩⟩
              all_goals go_quiet (fail)
              all_goals go_wp2
              all_goals go_meet
              all_goals refine ⟨congrArg Value.bool ?_, _, rfl⟩
              all_goals rw [HBad.out]
              all_goals simp at *
              all_goals omega
            case rest =>
              obtain ⟨rfl, n, rfl⟩ := hcut
              cases bad
              · go_wp2
                go_loopw [5] (fun j wr2 => ∃ q : Nat, 2 ≤ q ∧ q ≤ k ∧ j = .int .i64 q ∧ freshP d.nodes q ⟨xv, l, m⟩ ∧ Drew W0 wr2) (fun j _ => k - (intOf j).toNat)
                case atStart => exact ⟨2, by omega, by omega, rfl, freshP_two _ _, n, rfl⟩
                case round =>
                  obtain ⟨q, hq2, hq, rfl, hfr, nd, rfl⟩ := hrel
                  have HF := Lib.hid hfr
                  clear hfr
                  by_cases hlt2 : q < k
                  · obtain ⟨u, hu⟩ := get_of_lt (l := d.nodes) (k := q) (by omega)
                    obtain ⟨-, u1, u2, u3⟩ := HS.out.1.nodeAt HW.out.1 hu
                    have HU := Lib.hid hu
                    clear hu
                    by_cases he : u = ⟨xv, l, m⟩
                    · subst he
                      dsimp only at u1 u2 u3
                      go_wp2_with fail
                      go_quiet (fail)
                      go_wp2
                      go_ret
                      exact ⟨ret_bool (validB_not HX.out hk2 fun h => h.fresh q hlt2 hq2 HU.out), below_n (below_n HW.out.1 _) _⟩
                    · have HE := Lib.hid he
                      clear he
                      obtain ⟨uv, ul, uh⟩ := u
                      dsimp only at u1 u2 u3
                      have hne : uv ≠ xv ∨ (uv = xv ∧ (ul ≠ l ∨ (ul = l ∧ uh ≠ m))) := by
                        by_cases a1 : uv = xv
                        · by_cases a2 : ul = l
                          · by_cases a3 : uh = m
                            · exact absurd (by rw [a1, a2, a3]) HE.out
                            · exact .inr ⟨a1, .inr ⟨a2, a3⟩⟩
                          · exact .inr ⟨a1, .inl a2⟩
                        · exact .inl a1
                      rcases hne with hne | ⟨rfl, hne | ⟨rfl, hne⟩⟩
                      all_goals go_wp2_with fail
                      all_goals go_quiet (fail)
                      all_goals go_wp2
                      all_goals
                        go_roundw
                        case rel => exact ⟨q + 1, by omega, by omega, by go_num, freshP_snoc HF.out HU.out HE.out, _, rfl⟩
                        case measure => simp [intOf]; omega
                  · obtain rfl : q = k := by omega
                    go_wp2
                    go_roundw
                    case rel =>
                      have e := HBad.out
                      symm at e
                      rw [decide_eq_false_iff_not] at e
                      refine ⟨q + 1, by omega, by omega, by go_num, okTo_snoc HB.out.2.2 HX.out ⟨HBP.out, fun h => ?_, fun h => ?_, HF.out⟩, HW.out.2.1, below_n HW.out.1 _⟩
                      · dsimp only at h ⊢
                        rw [Int.toNat_natCast, getD_of HY.out.1]; omega
                      · dsimp only at h ⊢
                        rw [Int.toNat_natCast, getD_of HY.out.2]; omega
                    case measure => simp [intOf]; omega
              · go_wp2
                go_ret
                refine ⟨ret_bool (validB_not HX.out hk2 fun h => ?_), below_n HW.out.1 _⟩
                have h1 := h.lo
                have h2 := h.hi
                have e := HBad.out
                dsimp only at h1 h2
                rw [Int.toNat_natCast, getD_of HY.out.1] at h1
                rw [Int.toNat_natCast, getD_of HY.out.2] at h2
                symm at e
                rw [decide_eq_true_eq] at e
                omega
          · have HBP := Lib.hid hb
            clear hb
            go_wp2_with (go_at_call 57; refine (l1In_any _ _ _ _).mono ?_; rintro e w' ⟨rfl, rfl⟩)
            all_goals first
              | (go_ret
                 exact ⟨ret_bool (validB_not HX.out hk2 fun h => HBP.out h.basic), HB.out.2.1.alloc HB.out.2.1.size _⟩)
              | (exfalso; refine HBP.out ?_; unfold basicP; simp at *; omega)
        · obtain rfl : k = d.nodes.length := by omega
          have hv : d.validB = true := Bd.validB_true ⟨HS.out.2.1, HB.out.2.2⟩
          have HV := Lib.hid hv
          clear hv
          go_wp2
          go_ret
          exact ⟨ret_bool HV.out.symm, HB.out.2.1⟩
    · have hv : d.validB = false := Bd.validB_false fun h => hh h.1
      rw [hv]
      clear hv
      have HS := Lib.hid (And.intro h1 (And.intro hh (And.intro hn0 (And.intro hn1 hL))))
      clear h1 hn0 hn1 hL hh
      go_enter Try.func17, Try.ntmps17
      go_wp2_with (go_at_call 57; refine (l1In_any _ _ _ _).mono ?_; rintro e w' ⟨rfl, rfl⟩)
      all_goals first
        | (go_ret
           exact ⟨rfl, HS.out.2.2.2.2⟩)
        | (exfalso
           obtain ⟨-, hh, hn0, hn1, -⟩ := HS.out
           refine hh ⟨by omega, by omega, by simp at *; omega, by simp at *; omega, ?_, ?_⟩
           · rw [hn0]; congr 1; apply Nd.ext' <;> assumption
           · rw [hn1]; congr 1; apply Nd.ext' <;> assumption)
  · have hv : d.validB = false := Bd.validB_false fun h => hlen ⟨h.1.l2, h.1.l1000⟩
    rw [hv]
    clear hv
    have HS := Lib.hid (And.intro hlen hL)
    clear h1 hL hlen
    go_enter Try.func17, Try.ntmps17
    go_wp2
    all_goals first
      | (go_ret
         exact ⟨rfl, HS.out.2⟩)
      | (exfalso; refine HS.out.1 ⟨?_, ?_⟩ <;> omega)

end Go.Proofs.Ytddmgphlhfilnaa
