import Derived.Test.YtnifgamlmaembaaDoorTD
namespace Go.Proofs.YtnifgamlmaembaaDoor
set_option linter.unusedVariables false
set_option linter.unusedSimpArgs false
open Go.RowKit

/-! FormatCircuit of the program. -/

set_option maxRecDepth 100000 in
set_option maxHeartbeats 3200000 in
theorem FormatCircuit_i (v : Value) (c : Cir) (w : World) (h : CirV w v c) :
    Calls Tryd.prog 9 #[v] w (FmPost c w) := by
  have HC : Hid (∀ w', Below w.heap.size w w' → CirV w' v c) := fun w' hb => h.mono hb
  obtain ⟨sn, cn, sg, cg, so, co, rfl, h1, h2, h3, hl1, hl2, hl3⟩ := h
  have hb0 : Below w.heap.size w (w.alloc (.cells #[.int .i64 c.inp, .slice sn c.next.length cn, .slice sg c.gates.length cg, .slice so c.outs.length co] 31)) := (Below.refl _ _).alloc (Nat.le_refl _) _
  have hk0 := blk_new w (.cells #[.int .i64 c.inp, .slice sn c.next.length cn, .slice sg c.gates.length cg, .slice so c.outs.length co] 31)
  have H0 := Lib.hid (And.intro hb0 (And.intro hk0 (And.intro h1 (And.intro h2 h3))))
  have hz : (w.alloc (.cells #[.int .i64 c.inp, .slice sn c.next.length cn, .slice sg c.gates.length cg, .slice so c.outs.length co] 31)).heap.size = w.heap.size + 1 := by simp
  clear hb0 hk0 h1 h2 h3
  cases hv : c.validB
  · have e : fmtR c = [] := by unfold fmtR; rw [hv]; rfl
    have HE := Lib.hid (And.intro hv e)
    clear hv e
    go_enter Tryd.func9, Tryd.ntmps9
    go_upto_region 1 with fail
    revert H0 hz
    generalize w.alloc (.cells #[.int .i64 c.inp, .slice sn c.next.length cn, .slice sg c.gates.length cg, .slice so c.outs.length co] 31) = W0
    intro H0 hz
    have HZ := Lib.hid hz
    clear hz
    have cb := (blk_all H0.out.2.1).1
    go_upto_region 2 with (go_at_call 24; ((with_reducible refine (CircuitValid_i _ c _ (HC.out _ H0.out.1)).mono ?_); rintro e w1 ⟨rfl, hq⟩; rw [HE.out.1]; have HQ := Lib.hid (H0.out.1.trans (hq.mono H0.out.1.size)); clear hq cb))
    go_wp2_with fail
    go_ret
    unfold FmPost
    rw [HE.out.2]
    exact ⟨none, 0, rfl, World.ownsRow_nil _ _ _ _, HQ.out⟩
  · have hval := c.validB_iff.1 hv
    obtain ⟨q1, q2, q3, q4, q5⟩ := id hval.lim
    obtain ⟨f1, f2, f3, f4⟩ := valid_first hval
    have hnx : ∀ x ∈ c.next, ∃ m : Nat, x = m ∧ m < 100 := fun x hx => by have := hval.next x hx; unfold litP at this; exact ⟨x.toNat, by omega, by omega⟩
    have hox : ∀ x ∈ c.outs, ∃ m : Nat, x = m ∧ m < 100 := fun x hx => by have := hval.outs x hx; unfold litP at this; exact ⟨x.toNat, by omega, by omega⟩
    have e : fmtR c = fmtC c := by unfold fmtR; rw [hv]; rfl
    obtain ⟨I, hI⟩ : ∃ I : Nat, c.inp = I := ⟨c.inp.toNat, by omega⟩
    have hI4 : I ≤ 4 := by omega
    have HE := Lib.hid (And.intro hv (And.intro e (And.intro hval (And.intro hnx (And.intro hox hI)))))
    rw [hI] at H0 hz ⊢
    clear hv e hval hnx hox hI q1 q2 f1 f2 f3 f4
    go_enter Tryd.func9, Tryd.ntmps9
    go_upto_region 1 with fail
    revert H0 hz
    generalize w.alloc (.cells #[.int .i64 I, .slice sn c.next.length cn, .slice sg c.gates.length cg, .slice so c.outs.length co] 31) = W0
    intro hz H0
    have HZ := Lib.hid hz
    clear hz
    have HB : Hid (∀ W, Below W0.heap.size W0 W → (∀ o, W.cell? ⟨w.heap.size, o, none⟩ = #[Value.int .i64 I, .slice sn c.next.length cn, .slice sg c.gates.length cg, .slice so c.outs.length co][o]?) ∧ Below w.heap.size w W) := fun W hW =>
      ⟨(blk_all (blk_below hW (blk_lt H0.out.2.1) H0.out.2.1)).1, H0.out.1.trans (hW.mono H0.out.1.size)⟩
    have HC2 := Lib.hid (HC.out _ H0.out.1)
    have cb := (HB.out _ (Below.refl _ _)).1
    rw [HE.out.2.2.2.2.2] at HC2
    go_upto_region 3 with (go_at_call 24; ((with_reducible refine (CircuitValid_i _ c _ HC2.out).mono ?_); rintro e w1 ⟨rfl, hq⟩; rw [HE.out.1]; have HQ := Lib.hid hq; clear hq cb; have cb := (HB.out _ HQ.out).1))
    go_upto_region 4 with (go_at_call 32; (refine (line_any inputsW (by decide) [I] (by simp; omega) (by simp) (some ⟨w1.heap.size, 0, none⟩) 1 _ (Sl.new w1 #[.int .i64 (I : Int)] 3)).mono ?_); rintro e w2 ⟨rfl, hq⟩; have HQ2 := Lib.hid (HQ.out.trans (((Below.refl _ _).alloc (Nat.le_refl _) _ |>.trans (hq.mono (by simp))).mono HQ.out.size)); clear hq cb; unfold sv)
    have hf0 : FmS W0 [lineT inputsW [I]] (.slice (some ⟨w2.heap.size, 0, none⟩) 1 1) 1 (w2.alloc (.cells #[.string ⟨(lineT inputsW [I]).toArray⟩] 9)) :=
      ⟨own_of_blk (cur := #[.string ⟨(lineT inputsW [I]).toArray⟩]) (blk_new w2 (.cells #[.string ⟨(lineT inputsW [I]).toArray⟩] 9)) HQ2.out.size rfl (by decide), HQ2.out.alloc HQ2.out.size _⟩
    have HF := Lib.hid hf0
    clear hf0
    revert HF
    generalize w2.alloc (.cells #[.string ⟨(lineT inputsW [I]).toArray⟩] 9) = W3
    intro HF
    clear HQ HQ2
    have cb := (HB.out _ HF.out.bel).1
    go_wp2_with fail
    go_loopw [21, 3] (fun v21 v3 wr => ∃ (k N : Nat) (s : Option Addr) (cap : Nat), k ≤ c.next.length ∧ v21 = .int .i64 k ∧ v3 = .slice s N cap ∧ N = 1 + k ∧ FmS W0 ([lineT inputsW [I]] ++ nxT c k) (.slice s N cap) N wr) (fun v21 _ _ => c.next.length - (intOf v21).toNat)
    case atStart => exact ⟨0, 1, _, _, Nat.zero_le _, rfl, rfl, rfl, by simpa [nxT] using HF.out⟩
    case round =>
      clear HF cb
      obtain ⟨k, N, s, cap, hk, rfl, rfl, hN, hf⟩ := hrel
      have HF := Lib.hid hf
      clear hf
      have cb := (HB.out _ HF.out.bel).1
      by_cases hlt : k < c.next.length
      · obtain ⟨x, hx⟩ := get_of_lt hlt
        obtain ⟨m, rfl, hm⟩ := HE.out.2.2.2.1 x (List.mem_of_getElem? hx)
        obtain ⟨sb, sf, rfl, hsb, zx⟩ := H0.out.2.2.1.int (HB.out _ HF.out.bel).2 hx
        have HX := Lib.hid (nxT_snoc hx)
        have hN4 : N ≤ 40 := by omega
        have HNN := Lib.hid hN
        clear hx hsb hN cb
        go_wp2_with (first
          | (go_at_call 32; (refine (line_any latchW (by decide) [m] (by simpa using hm) (by simp) (some ⟨wr.heap.size, 0, none⟩) 1 _ (Sl.new wr #[.int .i64 (m : Int)] 3)).mono ?_); rintro e w2 ⟨rfl, hq⟩; have H2 := Lib.hid ((HF.out.alloc _).below hq); clear hq zx; unfold sv)
          | (at_builtin; go_loud (refine wpl_app rfl _ _ rfl elem_str (H2.out.alloc _).own rfl rfl rfl (Sl.new _ _ _) (by simp [Value.oneCell']) (N + 1) rfl _ rfl (by unfold maxLen; omega) (by omega) (H2.out.alloc _).hN ?_; intro s6 c6 w6 h6 hb6 hg6 hob6; have H6 := Lib.hid ((H2.out.alloc _).push h6 hb6); clear h6 hb6 hg6 hob6)))
        go_roundw
        case rel => exact ⟨k + 1, N + 1, s6, c6, by omega, by go_num, rfl, by have := HNN.out; omega, by rw [HX.out, ← List.append_assoc]; exact H6.out⟩
        case measure => simp [intOf]; omega
      · obtain rfl : k = c.next.length := by omega
        clear hk
        go_wp2_with fail
        go_loopw [35, 3] (fun v35 v3 wr => ∃ (k N : Nat) (s : Option Addr) (cap : Nat), k ≤ c.gates.length ∧ v35 = .int .i64 k ∧ v3 = .slice s N cap ∧ N = 1 + c.next.length + k ∧ FmS W0 ([lineT inputsW [I]] ++ nxT c c.next.length ++ gtT c k) (.slice s N cap) N wr) (fun v35 _ _ => c.gates.length - (intOf v35).toNat)
        case atStart => exact ⟨0, N, _, _, Nat.zero_le _, rfl, rfl, by omega, by simpa [gtT] using HF.out⟩
        case round =>
          clear HF hN hlt cb
          obtain ⟨k, N, s, cap, hk, rfl, rfl, hN, hf⟩ := hrel
          have HF := Lib.hid hf
          clear hf
          have cb := (HB.out _ HF.out.bel).1
          by_cases hlt : k < c.gates.length
          · obtain ⟨g, hg⟩ := get_of_lt hlt
            obtain ⟨⟨a0, a1⟩, b0, b1'⟩ := valid_gate HE.out.2.2.1 hg
            obtain ⟨f1, f2, f3, f4⟩ := valid_first HE.out.2.2.1
            obtain ⟨p, hp⟩ : ∃ p : Nat, g.a = p := ⟨g.a.toNat, by omega⟩
            obtain ⟨q, hq⟩ : ∃ q : Nat, g.b = q := ⟨g.b.toNat, by omega⟩
            have hp1 : p < 100 := by omega
            have hq1 : q < 100 := by omega
            have hX := gtT_snoc hg
            rw [hp, hq, Int.toNat_natCast, Int.toNat_natCast] at hX
            have HX := Lib.hid hX
            obtain ⟨gb, gf, rfl, hgb, zx0, zy0⟩ := H0.out.2.2.2.1.gate (Below.refl _ _) hg
            have zx : wr.cell? ⟨gb, gf + k * 2, none⟩ = some (.int .i64 p) := by rw [← hp]; exact ((HB.out _ HF.out.bel).2.cell (p := ⟨gb, gf + k * 2, none⟩) hgb).trans zx0
            have zy : wr.cell? ⟨gb, gf + k * 2 + 1, none⟩ = some (.int .i64 q) := by rw [← hq]; exact ((HB.out _ HF.out.bel).2.cell (p := ⟨gb, gf + k * 2 + 1, none⟩) hgb).trans zy0
            have hN4 : N ≤ 20 := by omega
            have HNN := Lib.hid hN
            clear hg hX hgb hN zx0 zy0 a0 a1 b0 b1' f1 f2 f3 f4 hp hq cb
            go_upto_region 12 with fail
            clear zx zy
            have hcg := (blk_all (blk_new wr (.cells #[.int .i64 (p : Int), .int .i64 (q : Int)] 52))).1
            have hf := HF.out.alloc (.cells #[.int .i64 (p : Int), .int .i64 (q : Int)] 52)
            obtain ⟨G, hG⟩ : ∃ G, G = wr.heap.size := ⟨_, rfl⟩
            rw [← hG] at hcg
            rw [← hG]
            clear hG HF
            revert hcg hf
            generalize wr.alloc (.cells #[.int .i64 (p : Int), .int .i64 (q : Int)] 52) = WG
            intro hf hcg
            have HF := Lib.hid hf
            clear hf
            go_wp2_with (first
              | (go_at_call 32; (refine (line_any gateW (by decide) [p, q] (by simp; omega) (by simp) (some ⟨WG.heap.size, 0, none⟩) 2 _ (Sl.new WG #[.int .i64 (p : Int), .int .i64 (q : Int)] 3)).mono ?_); rintro e w2 ⟨rfl, hq⟩; have H2 := Lib.hid ((HF.out.alloc _).below hq); clear hq hcg; unfold sv)
              | (at_builtin; go_loud (refine wpl_app rfl _ _ rfl elem_str (H2.out.alloc _).own rfl rfl rfl (Sl.new _ _ _) (by simp [Value.oneCell']) (N + 1) rfl _ rfl (by unfold maxLen; omega) (by omega) (H2.out.alloc _).hN ?_; intro s6 c6 w6 h6 hb6 hg6 hob6; have H6 := Lib.hid ((H2.out.alloc _).push h6 hb6); clear h6 hb6 hg6 hob6)))
            go_roundw
            case rel => exact ⟨k + 1, N + 1, s6, c6, by omega, by go_num, rfl, by have := HNN.out; omega, by rw [HX.out, ← List.append_assoc]; exact H6.out⟩
            case measure => simp [intOf]; omega
          · obtain rfl : k = c.gates.length := by omega
            clear hk
            go_wp2_with fail
            go_loopw [52, 3] (fun v52 v3 wr => ∃ (k N : Nat) (s : Option Addr) (cap : Nat), k ≤ c.outs.length ∧ v52 = .int .i64 k ∧ v3 = .slice s N cap ∧ N = 1 + c.next.length + c.gates.length + k ∧ FmS W0 (([lineT inputsW [I]] ++ nxT c c.next.length ++ gtT c c.gates.length) ++ otT c k) (.slice s N cap) N wr) (fun v52 _ _ => c.outs.length - (intOf v52).toNat)
            case atStart => exact ⟨0, N, _, _, Nat.zero_le _, rfl, rfl, by omega, by simpa [otT] using HF.out⟩
            case round =>
              clear HF hN hlt cb
              obtain ⟨k, N, s, cap, hk, rfl, rfl, hN, hf⟩ := hrel
              have HF := Lib.hid hf
              clear hf
              have cb := (HB.out _ HF.out.bel).1
              by_cases hlt : k < c.outs.length
              · obtain ⟨x, hx⟩ := get_of_lt hlt
                obtain ⟨m, rfl, hm⟩ := HE.out.2.2.2.2.1 x (List.mem_of_getElem? hx)
                obtain ⟨sb, sf, rfl, hsb, zx⟩ := H0.out.2.2.2.2.int (HB.out _ HF.out.bel).2 hx
                have HX := Lib.hid (otT_snoc hx)
                have hN4 : N ≤ 40 := by omega
                have HNN := Lib.hid hN
                clear hx hsb hN cb
                go_wp2_with (first
                  | (go_at_call 32; (refine (line_any outW (by decide) [m] (by simpa using hm) (by simp) (some ⟨wr.heap.size, 0, none⟩) 1 _ (Sl.new wr #[.int .i64 (m : Int)] 3)).mono ?_); rintro e w2 ⟨rfl, hq⟩; have H2 := Lib.hid ((HF.out.alloc _).below hq); clear hq zx; unfold sv)
                  | (at_builtin; go_loud (refine wpl_app rfl _ _ rfl elem_str (H2.out.alloc _).own rfl rfl rfl (Sl.new _ _ _) (by simp [Value.oneCell']) (N + 1) rfl _ rfl (by unfold maxLen; omega) (by omega) (H2.out.alloc _).hN ?_; intro s6 c6 w6 h6 hb6 hg6 hob6; have H6 := Lib.hid ((H2.out.alloc _).push h6 hb6); clear h6 hb6 hg6 hob6)))
                go_roundw
                case rel => exact ⟨k + 1, N + 1, s6, c6, by omega, by go_num, rfl, by have := HNN.out; omega, by rw [HX.out, ← List.append_assoc]; exact H6.out⟩
                case measure => simp [intOf]; omega
              · obtain rfl : k = c.outs.length := by omega
                have HNN := Lib.hid hN
                clear hN hk
                go_wp2_with fail
                go_ret
                have hr : fmtR c = ([lineT inputsW [I]] ++ nxT c c.next.length ++ gtT c c.gates.length) ++ otT c c.outs.length := by rw [HE.out.2.1]; unfold fmtC; rw [HE.out.2.2.2.2.2, Int.toNat_natCast]
                have hlen : (fmtR c).length = N := by rw [hr, HNN.out]; simp only [List.length_append, List.length_singleton, nxT_len (Nat.le_refl _), gtT_len (Nat.le_refl _), otT_len (Nat.le_refl _)]
                refine ⟨s, cap, by rw [hlen]; rfl, ?_, (HB.out _ HF.out.bel).2⟩
                rw [hlen, hr]
                exact own_base HF.out.own (by have := HZ.out; omega)

end Go.Proofs.YtnifgamlmaembaaDoor
