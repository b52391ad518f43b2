import Derived.Test.YtddmgphlhfilnaaN2
import Derived.Test.YtddmgphlhfilnaaM2
import Derived.Deep.DeepCutAuto
namespace Go.Proofs.Ytddmgphlhfilnaa
set_option linter.unusedVariables false
set_option linter.unusedSimpArgs false
open Go.RowKit

theorem fresh_iff (ns : List Nd) (k : Nat) (x : Nd) : freshP ns k x ↔ x ∉ (ns.take k).drop 2 := by
  unfold freshP
  rw [List.mem_iff_getElem?]
  simp only [List.getElem?_drop, List.getElem?_take]
  constructor
  · rintro h ⟨i, hi⟩
    split at hi
    · exact h (2 + i) (by omega) (by omega) hi
    · cases hi
  · intro h i h1 h2 e
    refine h ⟨i - 2, ?_⟩
    rw [show 2 + (i - 2) = i from by omega, if_pos h1]; exact e
theorem take_drop_snoc {ns : List Nd} {k : Nat} {x : Nd} (hk : 2 ≤ k) (hx : ns[k]? = some x) : (ns.take (k + 1)).drop 2 = (ns.take k).drop 2 ++ [x] := by
  have hlt := (List.getElem?_eq_some_iff.1 hx).1
  rw [List.take_add_one, hx, List.drop_append_of_le_length (by rw [List.length_take]; omega)]
  rfl

set_option maxRecDepth 100000 in
set_option maxHeartbeats 1600000 in
theorem BddValid_i0 (sn : Option Addr) (cn : Nat) (d : Bd) (w : World) (h1 : Sl w sn (ncells d.nodes)) (hl : d.nodes.length ≤ 1048576) (hh : ¬ d.head) :
    Calls Try.prog 16 #[.agg #[.slice sn d.nodes.length cn, .int .i64 d.root]] w fun e w' => e = .returned (.bool d.validB) ∧ Below w.heap.size w w' := by
  have hL : Below w.heap.size w (w.alloc (.cells #[.slice sn d.nodes.length cn, .int .i64 d.root] 25)) := by go_grown
  by_cases hlen : 2 ≤ d.nodes.length ∧ d.nodes.length ≤ 1000
  · obtain ⟨n0, hn0⟩ := get_of_lt (l := d.nodes) (k := 0) (by omega)
    obtain ⟨n1, hn1⟩ := get_of_lt (l := d.nodes) (k := 1) (by omega)
    obtain ⟨b, off, rfl, hbw, z1, z2, z3⟩ := h1.node hL hn0
    obtain ⟨-, z4, z5, z6⟩ := h1.nodeAt hL hn1
    simp only [Nat.zero_mul, Nat.one_mul, Nat.add_zero, Nat.zero_add] at z1 z2 z3 z4 z5 z6
    obtain ⟨hlen1, hlen2⟩ := hlen
    have hv : d.validB = false := Bd.validB_false fun h => hh h.1
    rw [hv]
    clear hv
    have HS := Lib.hid (And.intro h1 (And.intro hh (And.intro hn0 (And.intro hn1 hL))))
    clear h1 hn0 hn1 hL hh
    go_enter Try.func16, Try.ntmps16
    go_wp2_with fail
    all_goals first
      | (go_ret
         exact ⟨rfl, HS.out.2.2.2.2⟩)
      | (exfalso
         obtain ⟨-, hh, hn0, hn1, -⟩ := HS.out
         refine hh ⟨by omega, by omega, by first | omega | (simp at *; omega), by first | omega | (simp at *; omega), ?_, ?_⟩
         · rw [hn0]; congr 1; apply Nd.ext' <;> assumption
         · rw [hn1]; congr 1; apply Nd.ext' <;> assumption)
  · have hv : d.validB = false := Bd.validB_false fun h => hlen ⟨h.1.l2, h.1.l1000⟩
    rw [hv]
    clear hv
    have HS := Lib.hid (And.intro hlen hL)
    clear h1 hL hlen
    go_enter Try.func16, Try.ntmps16
    go_wp2
    all_goals first
      | (go_ret
         exact ⟨rfl, HS.out.2⟩)
      | (exfalso; refine HS.out.1 ⟨?_, ?_⟩ <;> omega)

set_option maxRecDepth 100000 in
set_option maxHeartbeats 1600000 in
theorem BddValid_i1 (sn : Option Addr) (cn : Nat) (d : Bd) (w : World) (h1 : Sl w sn (ncells d.nodes)) (hl : d.nodes.length ≤ 1048576) (hh : d.head) (hcl : d.nodes.length ≤ cn) (hc63 : cn ≤ 9223372036854775807) (hc2 : cn = 2) :
    Calls Try.prog 16 #[.agg #[.slice sn d.nodes.length cn, .int .i64 d.root]] w fun e w' => e = .returned (.bool d.validB) ∧ Below w.heap.size w w' := by
  have hL : Below w.heap.size w (w.alloc (.cells #[.slice sn d.nodes.length cn, .int .i64 d.root] 25)) := by go_grown
  have hlen : 2 ≤ d.nodes.length ∧ d.nodes.length ≤ 1000 := ⟨hh.l2, hh.l1000⟩
  · obtain ⟨n0, hn0⟩ := get_of_lt (l := d.nodes) (k := 0) (by omega)
    obtain ⟨n1, hn1⟩ := get_of_lt (l := d.nodes) (k := 1) (by omega)
    obtain ⟨b, off, rfl, hbw, z1, z2, z3⟩ := h1.node hL hn0
    obtain ⟨-, z4, z5, z6⟩ := h1.nodeAt hL hn1
    simp only [Nat.zero_mul, Nat.one_mul, Nat.add_zero, Nat.zero_add] at z1 z2 z3 z4 z5 z6
    obtain ⟨hlen1, hlen2⟩ := hlen
    · obtain ⟨-, -, r0, r1, e0, e1⟩ := id hh
      rw [hn0] at e0; cases e0
      rw [hn1] at e1; cases e1
      have HS := Lib.hid (And.intro h1 (And.intro hh hL))
      clear h1 hn0 hn1 hL hh
      have hN := blk_new w (.cells #[.slice (some ⟨b, off, none⟩) d.nodes.length cn, .int .i64 d.root] 25)
      have HN := Lib.hid hN
      clear hN
      have e2 : d.nodes.length = 2 := by omega
      have hv : d.validB = true := Bd.validB_true ⟨HS.out.2.1, by rw [e2]; exact okTo_two _⟩
      rw [hv]
      rw [e2] at r1 z1 z2 z3 z4 z5 z6 ⊢
      have HL2 := Lib.hid HS.out.2.2
      rw [e2] at HL2
      subst hc2
      have HN2 := HN
      clear hv e2 hlen1 hlen2 hcl hl hc63 HN HS HN2
      have hmm : ∀ w, (Instr.makeMap 70 none).run Try.prog w = .ok (.map (some w.heap.size)) (w.alloc (.map #[] 0)) := fun w => by kernel_rfl
      go_enter Try.func16, Try.ntmps16
      go_wp2_with fail
      refine wp_loop_rounds 1 ?_
      rw [rounds_succ]
      go_wp2
      go_ret
      exact ⟨rfl, HL2.out.alloc (by simp) _⟩

set_option maxRecDepth 100000 in
set_option maxHeartbeats 1600000 in
theorem BddValid_i2 (sn : Option Addr) (cn : Nat) (d : Bd) (w : World) (h1 : Sl w sn (ncells d.nodes)) (hl : d.nodes.length ≤ 1048576) (hh : d.head) (hcl : d.nodes.length ≤ cn) (hc63 : cn ≤ 9223372036854775807) (hc2 : ¬ cn = 2) :
    Calls Try.prog 16 #[.agg #[.slice sn d.nodes.length cn, .int .i64 d.root]] w fun e w' => e = .returned (.bool d.validB) ∧ Below w.heap.size w w' := by
  have hL : Below w.heap.size w (w.alloc (.cells #[.slice sn d.nodes.length cn, .int .i64 d.root] 25)) := by go_grown
  have hlen : 2 ≤ d.nodes.length ∧ d.nodes.length ≤ 1000 := ⟨hh.l2, hh.l1000⟩
  · obtain ⟨n0, hn0⟩ := get_of_lt (l := d.nodes) (k := 0) (by omega)
    obtain ⟨n1, hn1⟩ := get_of_lt (l := d.nodes) (k := 1) (by omega)
    obtain ⟨b, off, rfl, hbw, z1, z2, z3⟩ := h1.node hL hn0
    obtain ⟨-, z4, z5, z6⟩ := h1.nodeAt hL hn1
    simp only [Nat.zero_mul, Nat.one_mul, Nat.add_zero, Nat.zero_add] at z1 z2 z3 z4 z5 z6
    obtain ⟨hlen1, hlen2⟩ := hlen
    · obtain ⟨-, -, r0, r1, e0, e1⟩ := id hh
      rw [hn0] at e0; cases e0
      rw [hn1] at e1; cases e1
      have HS := Lib.hid (And.intro h1 (And.intro hh hL))
      clear h1 hn0 hn1 hL hh
      have hN := blk_new w (.cells #[.slice (some ⟨b, off, none⟩) d.nodes.length cn, .int .i64 d.root] 25)
      have HN := Lib.hid hN
      clear hN
      have hmm : ∀ w, (Instr.makeMap 70 none).run Try.prog w = .ok (.map (some w.heap.size)) (w.alloc (.map #[] 0)) := fun w => by kernel_rfl
      go_enter Try.func16, Try.ntmps16
      go_wp2_with fail
      have hbA : Below w.heap.size w ((w.alloc (.cells #[.slice (some ⟨b, off, none⟩) d.nodes.length cn, .int .i64 d.root] 25)).alloc (.map #[] 0)) := HS.out.2.2.alloc (by simp) _
      have hbm := MapOf.new (w.alloc (.cells #[.slice (some ⟨b, off, none⟩) d.nodes.length cn, .int .i64 d.root] 25))
      have hbk := blk_old (o := .map #[] 0) HN.out
      have hszA : ((w.alloc (.cells #[.slice (some ⟨b, off, none⟩) d.nodes.length cn, .int .i64 d.root] 25)).alloc (.map #[] 0)).heap.size = w.heap.size + 2 := by simp
      rw [show (w.alloc (.cells #[.slice (some ⟨b, off, none⟩) d.nodes.length cn, .int .i64 d.root] 25)).heap.size = w.heap.size + 1 from by simp] at hbm
      revert hbA hbm hbk hszA
      generalize ((w.alloc (.cells #[.slice (some ⟨b, off, none⟩) d.nodes.length cn, .int .i64 d.root] 25)).alloc (.map #[] 0)) = WA
      intro hbA hbm hbk hszA
      have HA := Lib.hid (And.intro hbA (And.intro hbm (And.intro hbk hszA)))
      clear hbA hbm hbk hszA z1 z2 z3 z4 z5 z6 hmm
      go_loopw [50] (fun i wr => ∃ k : Nat, k ≤ d.nodes.length - 2 ∧ i = .int .i64 k ∧ okTo d.nodes (k + 2) ∧ MapOf wr (w.heap.size + 1) ((d.nodes.take (k + 2)).drop 2) ∧ wr.heap[w.heap.size]? = some (.cells #[.slice (some ⟨b, off, none⟩) d.nodes.length cn, .int .i64 d.root] 25 (0, 0)) ∧ Below w.heap.size w wr) (fun i _ => d.nodes.length - 2 - (intOf i).toNat)
      case atStart => exact ⟨0, Nat.zero_le _, rfl, okTo_two _, by simpa using HA.out.2.1, HA.out.2.2.1, HA.out.1⟩
      case round =>
        obtain ⟨k, hk, rfl, hok, hmo, hbk, hbl⟩ := hrel
        have HB := Lib.hid (And.intro hbk (And.intro hbl (And.intro hok hmo)))
        clear hbk hbl hok hmo
        by_cases hlt : k < d.nodes.length - 2
        · obtain ⟨x, hx⟩ := get_of_lt (l := d.nodes) (k := k + 2) (by omega)
          obtain ⟨-, z1, z2, z3⟩ := HS.out.1.nodeAt HB.out.2.1 hx
          have eo : off + (k + 2) * 3 = off + 6 + k * 3 := by omega
          rw [eo] at z1 z2 z3
          have HX := Lib.hid hx
          clear hx eo
          obtain ⟨xv, xlo, xhi⟩ := x
          dsimp only at z1 z2 z3
          go_upto_region 8 with fail
          have hbA : Below w.heap.size w (wr.alloc (.cells #[.int .i64 xv, .int .i64 xlo, .int .i64 xhi] 29)) := HB.out.2.1.alloc HB.out.2.1.size _
          have hbk := blk_old (o := .cells #[.int .i64 xv, .int .i64 xlo, .int .i64 xhi] 29) HB.out.1
          have hbm := HB.out.2.2.2.below ((Below.refl _ _).alloc (Nat.le_refl _) (.cells #[.int .i64 xv, .int .i64 xlo, .int .i64 xhi] 29))
          have hbn := blk_new wr (.cells #[.int .i64 xv, .int .i64 xlo, .int .i64 xhi] 29)
          have hml := HB.out.2.2.2.lt
          clear z1 z2 z3
          revert hbA hbk hbm hbn
          generalize wr.alloc (.cells #[.int .i64 xv, .int .i64 xlo, .int .i64 xhi] 29) = W0
          intro hbA hbk hbm hbn
          have c0 : W0.cell? ⟨w.heap.size, 0, none⟩ = some (.slice (some ⟨b, off, none⟩) d.nodes.length cn) := blk_cell hbk
          have e0 : W0.cell? ⟨wr.heap.size, 0, none⟩ = some (.int .i64 xv) := blk_cell hbn
          have e1 : W0.cell? ⟨wr.heap.size, 1, none⟩ = some (.int .i64 xlo) := blk_cell hbn
          have e2 : W0.cell? ⟨wr.heap.size, 2, none⟩ = some (.int .i64 xhi) := blk_cell hbn
          have hlk := map_lookup hbm ⟨xv, xlo, xhi⟩
          have HW := Lib.hid (And.intro hbA (And.intro hbk (And.intro hbm hbn)))
          clear hbA hbk hbm hbn
          by_cases hb : basicP (k + 2) ⟨xv, xlo, xhi⟩ ∧ freshP d.nodes (k + 2) ⟨xv, xlo, xhi⟩
          · obtain ⟨⟨p1, p2, p3, p4, p5, p6, p7⟩, hf⟩ := id hb
            have HBP := Lib.hid hb
            rw [decide_eq_false ((fresh_iff _ _ _).1 hf)] at hlk
            unfold Nd.agg at hlk
            dsimp only at p1 p2 p3 p4 p5 p6 p7 hlk
            clear hb hf
            have q7 : (xlo == xhi) = false := beq_eq_false_iff_ne.2 p7
            go_wp2_with fail
            clear hlk q7
            obtain ⟨l, rfl⟩ : ∃ l : Nat, xlo = l := ⟨xlo.toNat, by omega⟩
            obtain ⟨m, rfl⟩ : ∃ m : Nat, xhi = m := ⟨xhi.toNat, by omega⟩
            obtain ⟨y, hy⟩ := get_of_lt (l := d.nodes) (k := l) (by omega)
            obtain ⟨z, hz⟩ := get_of_lt (l := d.nodes) (k := m) (by omega)
            have hbA : Below w.heap.size w (W0.alloc (.cells #[.int .i64 (l : Int), .int .i64 (m : Int)] 3)) := HW.out.1.alloc HW.out.1.size _
            have hbk := blk_old (o := .cells #[.int .i64 (l : Int), .int .i64 (m : Int)] 3) HW.out.2.1
            have hbm := HW.out.2.2.1.below ((Below.refl _ _).alloc (Nat.le_refl _) (.cells #[.int .i64 (l : Int), .int .i64 (m : Int)] 3))
            have hbn := blk_old (o := .cells #[.int .i64 (l : Int), .int .i64 (m : Int)] 3) HW.out.2.2.2
            have hba := blk_new W0 (.cells #[.int .i64 (l : Int), .int .i64 (m : Int)] 3)
            clear c0 e0 e1 e2
            revert hbA hbk hbm hbn hba
            generalize W0.alloc (.cells #[.int .i64 (l : Int), .int .i64 (m : Int)] 3) = W1
            intro hbA hbk hbm hbn hba
            have c0 : W1.cell? ⟨w.heap.size, 0, none⟩ = some (.slice (some ⟨b, off, none⟩) d.nodes.length cn) := blk_cell hbk
            have e0 : W1.cell? ⟨wr.heap.size, 0, none⟩ = some (.int .i64 xv) := blk_cell hbn
            have e1 : W1.cell? ⟨wr.heap.size, 1, none⟩ = some (.int .i64 (l : Int)) := blk_cell hbn
            have e2 : W1.cell? ⟨wr.heap.size, 2, none⟩ = some (.int .i64 (m : Int)) := blk_cell hbn
            have a0 : W1.cell? ⟨W0.heap.size, 0, none⟩ = some (.int .i64 (l : Int)) := blk_cell hba
            have a1 : W1.cell? ⟨W0.heap.size, 1, none⟩ = some (.int .i64 (m : Int)) := blk_cell hba
            obtain ⟨-, y1, -, -⟩ := HS.out.1.nodeAt hbA hy
            obtain ⟨-, y2, -, -⟩ := HS.out.1.nodeAt hbA hz
            have HY := Lib.hid (And.intro hy hz)
            have HW1 := Lib.hid (And.intro hbA (And.intro hbk hbm))
            clear hbA hbk hbm hbn hba hy hz
            go_loopw [105] (fun j wr2 => (j = .int .i64 0 ∨ (j = .int .i64 1 ∧ (1 < l → xv < y.v)) ∨ (j = .int .i64 2 ∧ (1 < l → xv < y.v) ∧ (1 < m → xv < z.v))) ∧ Drew W1 wr2) (fun j _ => 2 - (intOf j).toNat)
            case atStart => exact ⟨.inl rfl, Drew.refl _⟩
            case round =>
              obtain ⟨hj, n, rfl⟩ := hrel
              rcases hj with rfl | ⟨rfl, hy⟩ | ⟨rfl, hy, hz⟩
              · go_wp2_with fail
                cases hA : decide ((1 : Int) < (l : Int)) <;> cases hB : decide (y.v ≤ xv)
                all_goals go_quiet (fail)
                all_goals go_wp2
                all_goals first
                  | (go_roundw
                     case rel => exact ⟨.inr (.inl ⟨rfl, by simp at hA hB; omega⟩), _, rfl⟩
                     case measure => simp [intOf])
                  | (go_ret
                     refine ⟨ret_bool (validB_not HX.out (by omega) fun h => ?_), below_n (below_n HW1.out.1 _) _⟩
                     have h1 := h.lo
                     dsimp only at h1
                     rw [Int.toNat_natCast, getD_of HY.out.1] at h1
                     simp at hA hB
                     omega)
              · have HYY := Lib.hid hy
                clear hy
                go_wp2_with fail
                cases hA : decide ((1 : Int) < (m : Int)) <;> cases hB : decide (z.v ≤ xv)
                all_goals go_quiet (fail)
                all_goals go_wp2
                all_goals first
                  | (go_roundw
                     case rel => exact ⟨.inr (.inr ⟨rfl, HYY.out, by simp at hA hB; omega⟩), _, rfl⟩
                     case measure => simp [intOf])
                  | (go_ret
                     refine ⟨ret_bool (validB_not HX.out (by omega) fun h => ?_), below_n (below_n HW1.out.1 _) _⟩
                     have h1 := h.hi
                     dsimp only at h1
                     rw [Int.toNat_natCast, getD_of HY.out.2] at h1
                     simp at hA hB
                     omega)
              · have HYY := Lib.hid (And.intro hy hz)
                clear hy hz a0 a1
                obtain ⟨W2, hrun, hmo, hgr, hsz⟩ := map_update (w := W1.drewN n) (b := w.heap.size + 1) HW1.out.2.2 ⟨xv, l, m⟩ ((fresh_iff _ _ _).1 HBP.out.2)
                have hb2 : Below (w.heap.size + 1) W1 W2 := ⟨hgr.os, hgr.tape, hgr.output, hgr.size, fun q hq => hgr.block q (Nat.lt_trans hq HW1.out.2.2.lt) (by simp; omega)⟩
                unfold Nd.agg at hrun
                dsimp only at hrun
                have HW2 := Lib.hid (And.intro hmo hb2)
                clear hmo hb2 hgr hsz
                go_wp2
                go_roundw
                case rel =>
                  refine ⟨k + 1, by omega, by go_num, ?_, ?_, blk_below HW2.out.2 (by omega) HW1.out.2.1, HW1.out.1.trans (HW2.out.2.mono (by omega))⟩
                  · have := okTo_snoc HB.out.2.2.1 HX.out ⟨HBP.out.1, fun h => by dsimp only at h ⊢; rw [Int.toNat_natCast, getD_of HY.out.1]; exact HYY.out.1 (by omega), fun h => by dsimp only at h ⊢; rw [Int.toNat_natCast, getD_of HY.out.2]; exact HYY.out.2 (by omega), HBP.out.2⟩
                    rwa [show k + 2 + 1 = k + 1 + 2 from by omega] at this
                  · rw [show k + 1 + 2 = k + 2 + 1 from by omega, take_drop_snoc (by omega) HX.out]; exact HW2.out.1
                case measure => simp [intOf]; omega
          · obtain ⟨r, hr⟩ : ∃ r, decide ((⟨xv, xlo, xhi⟩ : Nd) ∈ (d.nodes.take (k + 2)).drop 2) = r := ⟨_, rfl⟩
            rw [hr] at hlk
            unfold Nd.agg at hlk
            dsimp only at hlk
            have HBN := Lib.hid (And.intro hb hr)
            clear hb hr
            cases r
            all_goals go_wp2_with fail
            all_goals first
              | (go_ret
                 exact ⟨ret_bool (validB_not HX.out (by omega) fun h => HBN.out.1 ⟨h.basic, h.fresh⟩), HW.out.1⟩)
              | (exfalso
                 obtain ⟨hb, hr⟩ := HBN.out
                 rw [decide_eq_false_iff_not, ← fresh_iff] at hr
                 refine hb ⟨?_, hr⟩
                 unfold basicP; simp at *; omega)
        · have hv : d.validB = true := Bd.validB_true ⟨HS.out.2.1, by have := HB.out.2.2.1; rwa [show k + 2 = d.nodes.length from by omega] at this⟩
          have HV := Lib.hid hv
          clear hv
          go_wp2
          go_ret
          exact ⟨ret_bool HV.out.symm, HB.out.2.1⟩

theorem BddValid_i (v : Value) (d : Bd) (w : World) (h : BdV w v d) :
    Calls Try.prog 16 #[v] w fun e w' => e = .returned (.bool d.validB) ∧ Below w.heap.size w w' := by
  obtain ⟨sn, cn, rfl, h1, hl, hcl, hc63⟩ := h
  by_cases hh : d.head
  · by_cases hc2 : cn = 2
    · exact BddValid_i1 sn cn d w h1 hl hh hcl hc63 hc2
    · exact BddValid_i2 sn cn d w h1 hl hh hcl hc63 hc2
  · exact BddValid_i0 sn cn d w h1 hl hh

end Go.Proofs.Ytddmgphlhfilnaa
