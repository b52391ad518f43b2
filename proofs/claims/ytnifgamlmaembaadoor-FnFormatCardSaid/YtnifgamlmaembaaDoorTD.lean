import Derived.Test.YtnifgamlmaembaaDoorTC
import Derived.Test.YtnifgamlmaembaaDoorA4
namespace Go.Proofs.YtnifgamlmaembaaDoor
set_option linter.unusedVariables false
set_option linter.unusedSimpArgs false
open Go.RowKit

/-! FormatCircuit of the reference. -/

def inputsW : Tx := [105, 110, 112, 117, 116, 115]
def latchW : Tx := [108, 97, 116, 99, 104]
def gateW : Tx := [103, 97, 116, 101]
def outW : Tx := [111, 117, 116]
def nxT (c : Cir) (k : Nat) : List Tx := (c.next.take k).map fun l => lineT latchW [l.toNat]
def gtT (c : Cir) (k : Nat) : List Tx := (c.gates.take k).map fun g => lineT gateW [g.a.toNat, g.b.toNat]
def otT (c : Cir) (k : Nat) : List Tx := (c.outs.take k).map fun l => lineT outW [l.toNat]
def fmtC (c : Cir) : List Tx := ([lineT inputsW [c.inp.toNat]] ++ nxT c c.next.length ++ gtT c c.gates.length) ++ otT c c.outs.length
def fmtR (c : Cir) : List Tx := if c.validB then fmtC c else []
theorem nxT_len {c : Cir} {k : Nat} (h : k ≤ c.next.length) : (nxT c k).length = k := by simp [nxT]; omega
theorem gtT_len {c : Cir} {k : Nat} (h : k ≤ c.gates.length) : (gtT c k).length = k := by simp [gtT]; omega
theorem otT_len {c : Cir} {k : Nat} (h : k ≤ c.outs.length) : (otT c k).length = k := by simp [otT]; omega
theorem nxT_snoc {c : Cir} {k m : Nat} (h : c.next[k]? = some (m : Int)) : nxT c (k + 1) = nxT c k ++ [lineT latchW [m]] := by unfold nxT; rw [List.take_add_one, h]; simp
theorem gtT_snoc {c : Cir} {k : Nat} {g : Gt} (h : c.gates[k]? = some g) : gtT c (k + 1) = gtT c k ++ [lineT gateW [g.a.toNat, g.b.toNat]] := by unfold gtT; rw [List.take_add_one, h]; simp
theorem otT_snoc {c : Cir} {k m : Nat} (h : c.outs[k]? = some (m : Int)) : otT c (k + 1) = otT c k ++ [lineT outW [m]] := by unfold otT; rw [List.take_add_one, h]; simp

theorem cat_line1 (wd : Tx) (m : Nat) : (⟨(wd ++ [32]).toArray⟩ : ByteArray) ++ ⟨(Lib.decDigits m).toArray⟩ = ⟨(lineT wd [m]).toArray⟩ := by
  apply ByteArray.ext
  simp [lineT, partT]
theorem cat_line2 (wd : Tx) (m : Nat) : (⟨(lineT wd [m]).toArray⟩ : ByteArray) ++ ⟨#[32]⟩ = ⟨(lineT wd [m] ++ [32]).toArray⟩ := by
  apply ByteArray.ext
  simp
theorem cat_line3 (wd : Tx) (m n : Nat) : (⟨(lineT wd [m] ++ [32]).toArray⟩ : ByteArray) ++ ⟨(Lib.decDigits n).toArray⟩ = ⟨(lineT wd [m, n]).toArray⟩ := by
  apply ByteArray.ext
  simp [lineT, partT]
theorem size_mk (l : Tx) : (⟨l.toArray⟩ : ByteArray).size = l.length := by show l.toArray.size = _; simp
theorem line_len {wd : Tx} {m : Nat} (h : m < 100) : (lineT wd [m]).length ≤ wd.length + 3 := by
  have := dec_len h
  simp [lineT, partT]; omega

theorem l13P (n : Nat) (hn : n < 100) (w : World) : Calls Tryd.prog 29 #[.int .i64 n] w fun e w' => e = .returned (sv (Lib.decDigits n)) ∧ Below w.heap.size w w' :=
  (l13Plain_any n (by omega) w).mono fun e w' ⟨h1, h2⟩ => ⟨by rw [h1, plT_dec]; simp, h2⟩

/-- The lines so far. -/
structure FmS (W0 : World) (ls : List Tx) (v : Value) (n : Nat) (W : World) : Prop where
  own : W.ownsRow W0.heap.size 9 1 v n (strs ls)
  bel : Below W0.heap.size W0 W
theorem FmS.below {W0 W W' : World} {ls : List Tx} {v : Value} {n : Nat} (h : FmS W0 ls v n W) (hb : Below W.heap.size W W') : FmS W0 ls v n W' := ⟨own_below h.own hb, h.bel.trans (hb.mono h.bel.size)⟩
theorem FmS.alloc {W0 W : World} {ls : List Tx} {v : Value} {n : Nat} (h : FmS W0 ls v n W) (o : Obj) : FmS W0 ls v n (W.alloc o) := h.below ((Below.refl _ _).alloc (Nat.le_refl _) _)
theorem FmS.push {W0 W W2 : World} {ls : List Tx} {v : Value} {n : Nat} (h : FmS W0 ls v n W) {s : Option Addr} {N c : Nat} {x : Tx} (ho : W2.ownsRow W0.heap.size 9 1 (.slice s N c) N (strs ls ++ [.string ⟨x.toArray⟩])) (hb : Below W0.heap.size W W2) : FmS W0 (ls ++ [x]) (.slice s N c) N W2 :=
  ⟨by rw [← strs_append]; exact ho, h.bel.trans hb⟩
theorem FmS.hN {W0 W : World} {ls : List Tx} {v : Value} {n : Nat} (h : FmS W0 ls v n W) : W0.heap.size ≤ W.heap.size := h.bel.size

/-- What FormatCircuit leaves. -/
def FmPost (c : Cir) (w : World) (e : Ending) (w' : World) : Prop := ∃ s cap, e = .returned (.slice s (fmtR c).length cap) ∧ w'.ownsRow w.heap.size 9 1 (.slice s (fmtR c).length cap) (fmtR c).length (strs (fmtR c)) ∧ Below w.heap.size w w'

set_option maxRecDepth 100000 in
set_option maxHeartbeats 3200000 in
theorem FormatCircuit_s (v : Value) (c : Cir) (w : World) (h : CirV w v c) :
    Calls Tryd.prog 7 #[v] w (FmPost c w) := by
  have HC : Hid (∀ w', Below w.heap.size w w' → CirV w' v c) := fun w' hb => h.mono hb
  obtain ⟨sn, cn, sg, cg, so, co, rfl, h1, h2, h3, hl1, hl2, hl3⟩ := h
  have hb0 : Below w.heap.size w (w.alloc (.cells #[.int .i64 c.inp, .slice sn c.next.length cn, .slice sg c.gates.length cg, .slice so c.outs.length co] 31)) := (Below.refl _ _).alloc (Nat.le_refl _) _
  have hk0 := blk_new w (.cells #[.int .i64 c.inp, .slice sn c.next.length cn, .slice sg c.gates.length cg, .slice so c.outs.length co] 31)
  have H0 := Lib.hid (And.intro hb0 (And.intro hk0 (And.intro h1 (And.intro h2 h3))))
  have hz : (w.alloc (.cells #[.int .i64 c.inp, .slice sn c.next.length cn, .slice sg c.gates.length cg, .slice so c.outs.length co] 31)).heap.size = w.heap.size + 1 := by simp
  clear hb0 hk0 h1 h2 h3
  cases hv : c.validB
  · have e : fmtR c = [] := by unfold fmtR; rw [hv]; rfl
    have HE := Lib.hid (And.intro hv e)
    clear hv e
    go_enter Tryd.func7, Tryd.ntmps7
    go_upto_region 1 with fail
    revert H0 hz
    generalize w.alloc (.cells #[.int .i64 c.inp, .slice sn c.next.length cn, .slice sg c.gates.length cg, .slice so c.outs.length co] 31) = W0
    intro H0 hz
    have HZ := Lib.hid hz
    clear hz
    have cb := (blk_all H0.out.2.1).1
    go_upto_region 2 with (go_at_call 25; ((with_reducible refine (CircuitValid_s _ c _ (HC.out _ H0.out.1)).mono ?_); rintro e w1 ⟨rfl, hq⟩; rw [HE.out.1]; have HQ := Lib.hid (H0.out.1.trans (hq.mono H0.out.1.size)); clear hq cb))
    go_wp2_with fail
    go_ret
    unfold FmPost
    rw [HE.out.2]
    refine ⟨_, _, rfl, ?_, HQ.out.alloc HQ.out.size _⟩
    exact own_of_blk (cur := #[]) (blk_new w1 (.cells #[] 9)) HQ.out.size rfl (by decide)
  · have hval := c.validB_iff.1 hv
    obtain ⟨q1, q2, q3, q4, q5⟩ := id hval.lim
    obtain ⟨f1, f2, f3, f4⟩ := valid_first hval
    have hnx : ∀ x ∈ c.next, ∃ m : Nat, x = m ∧ m < 100 := fun x hx => by have := hval.next x hx; unfold litP at this; exact ⟨x.toNat, by omega, by omega⟩
    have hox : ∀ x ∈ c.outs, ∃ m : Nat, x = m ∧ m < 100 := fun x hx => by have := hval.outs x hx; unfold litP at this; exact ⟨x.toNat, by omega, by omega⟩
    have e : fmtR c = fmtC c := by unfold fmtR; rw [hv]; rfl
    obtain ⟨I, hI⟩ : ∃ I : Nat, c.inp = I := ⟨c.inp.toNat, by omega⟩
    have hI4 : I ≤ 4 := by omega
    have HE := Lib.hid (And.intro hv (And.intro e (And.intro hval (And.intro hnx (And.intro hox hI)))))
    rw [hI] at H0 hz ⊢
    clear hv e hval hnx hox hI q1 q2 f1 f2 f3 f4
    go_enter Tryd.func7, Tryd.ntmps7
    go_upto_region 1 with fail
    revert H0 hz
    generalize w.alloc (.cells #[.int .i64 I, .slice sn c.next.length cn, .slice sg c.gates.length cg, .slice so c.outs.length co] 31) = W0
    intro hz H0
    have HZ := Lib.hid hz
    clear hz
    have HB : Hid (∀ W, Below W0.heap.size W0 W → (∀ o, W.cell? ⟨w.heap.size, o, none⟩ = #[Value.int .i64 I, .slice sn c.next.length cn, .slice sg c.gates.length cg, .slice so c.outs.length co][o]?) ∧ Below w.heap.size w W) := fun W hW =>
      ⟨(blk_all (blk_below hW (blk_lt H0.out.2.1) H0.out.2.1)).1, H0.out.1.trans (hW.mono H0.out.1.size)⟩
    have HC2 := Lib.hid (HC.out _ H0.out.1)
    have cb := (HB.out _ (Below.refl _ _)).1
    have hcat : (⟨#[105, 110, 112, 117, 116, 115, 32]⟩ : ByteArray) ++ ⟨(Lib.decDigits I).toArray⟩ = ⟨(lineT inputsW [I]).toArray⟩ := cat_line1 inputsW I
    have hs1 : (⟨#[105, 110, 112, 117, 116, 115, 32]⟩ : ByteArray).size = 7 := rfl
    have hs2 : (⟨(Lib.decDigits I).toArray⟩ : ByteArray).size ≤ 2 := by rw [size_mk]; exact dec_len (by omega)
    rw [HE.out.2.2.2.2.2] at HC2
    go_upto_region 4 with (first
      | (go_at_call 25; ((with_reducible refine (CircuitValid_s _ c _ HC2.out).mono ?_); rintro e w1 ⟨rfl, hq⟩; rw [HE.out.1]; have HQ := Lib.hid hq; clear hq cb; have cb := (HB.out _ HQ.out).1))
      | (go_at_call 29; (refine (l13P I (by omega) _).mono ?_); rintro e w2 ⟨rfl, hq⟩; have HQ2 := Lib.hid (HQ.out.trans (hq.mono HQ.out.size)); clear hq; unfold sv))
    have hf0 : FmS W0 [lineT inputsW [I]] (.slice (some ⟨w2.heap.size, 0, none⟩) 1 1) 1 (w2.alloc (.cells #[.string ⟨(lineT inputsW [I]).toArray⟩] 9)) :=
      ⟨own_of_blk (cur := #[.string ⟨(lineT inputsW [I]).toArray⟩]) (blk_new w2 (.cells #[.string ⟨(lineT inputsW [I]).toArray⟩] 9)) HQ2.out.size rfl (by decide), HQ2.out.alloc HQ2.out.size _⟩
    have HF := Lib.hid hf0
    clear hf0 hcat hs1 hs2
    revert HF
    generalize w2.alloc (.cells #[.string ⟨(lineT inputsW [I]).toArray⟩] 9) = W3
    intro HF
    clear HQ HQ2
    go_wp2_with fail
    go_loopw [4, 3] (fun v4 v3 wr => ∃ (k N : Nat) (s : Option Addr) (cap : Nat), k ≤ c.next.length ∧ v4 = .int .i64 k ∧ v3 = .slice s N cap ∧ N = 1 + k ∧ FmS W0 ([lineT inputsW [I]] ++ nxT c k) (.slice s N cap) N wr) (fun v4 _ _ => c.next.length - (intOf v4).toNat)
    case atStart => exact ⟨0, 1, _, _, Nat.zero_le _, rfl, rfl, rfl, by simpa [nxT] using HF.out⟩
    case round =>
      clear HF
      obtain ⟨k, N, s, cap, hk, rfl, rfl, hN, hf⟩ := hrel
      have HF := Lib.hid hf
      clear hf
      have cb := (HB.out _ HF.out.bel).1
      by_cases hlt : k < c.next.length
      · obtain ⟨x, hx⟩ := get_of_lt hlt
        obtain ⟨m, rfl, hm⟩ := HE.out.2.2.2.1 x (List.mem_of_getElem? hx)
        obtain ⟨sb, sf, rfl, hsb, zx⟩ := H0.out.2.2.1.int (HB.out _ HF.out.bel).2 hx
        have HX := Lib.hid (nxT_snoc hx)
        have hN4 : N ≤ 4 := by omega
        have HNN := Lib.hid hN
        clear hx hsb hN
        have hcat : (⟨#[108, 97, 116, 99, 104, 32]⟩ : ByteArray) ++ ⟨(Lib.decDigits m).toArray⟩ = ⟨(lineT latchW [m]).toArray⟩ := cat_line1 latchW m
        have hs1 : (⟨#[108, 97, 116, 99, 104, 32]⟩ : ByteArray).size = 6 := rfl
        have hs2 : (⟨(Lib.decDigits m).toArray⟩ : ByteArray).size ≤ 2 := by rw [size_mk]; exact dec_len hm
        go_wp2_with (first
          | (go_at_call 29; (refine (l13P m hm _).mono ?_); rintro e w2 ⟨rfl, hq⟩; have H2 := Lib.hid (HF.out.below hq); clear hq cb zx; unfold sv)
          | (at_builtin; go_loud (refine wpl_app rfl _ _ rfl elem_str (H2.out.alloc _).own rfl rfl rfl (Sl.new _ _ _) (by simp [Value.oneCell']) (N + 1) rfl _ rfl (by unfold maxLen; omega) (by omega) (H2.out.alloc _).hN ?_; intro s6 c6 w6 h6 hb6 hg6 hob6; have H6 := Lib.hid ((H2.out.alloc _).push h6 hb6); clear h6 hb6 hg6 hob6)))
        go_roundw
        case rel => exact ⟨k + 1, N + 1, s6, c6, by omega, by go_num, rfl, by have := HNN.out; omega, by rw [HX.out, ← List.append_assoc]; exact H6.out⟩
        case measure => simp [intOf]; omega
      · obtain rfl : k = c.next.length := by omega
        clear hk
        go_wp2_with fail
        go_loopw [5, 3] (fun v5 v3 wr => ∃ (k N : Nat) (s : Option Addr) (cap : Nat), k ≤ c.gates.length ∧ v5 = .int .i64 k ∧ v3 = .slice s N cap ∧ N = 1 + c.next.length + k ∧ FmS W0 ([lineT inputsW [I]] ++ nxT c c.next.length ++ gtT c k) (.slice s N cap) N wr) (fun v5 _ _ => c.gates.length - (intOf v5).toNat)
        case atStart => exact ⟨0, N, _, _, Nat.zero_le _, rfl, rfl, by omega, by simpa [gtT] using HF.out⟩
        case round =>
          clear HF hN hlt
          obtain ⟨k, N, s, cap, hk, rfl, rfl, hN, hf⟩ := hrel
          have HF := Lib.hid hf
          clear hf
          have cb := (HB.out _ HF.out.bel).1
          by_cases hlt : k < c.gates.length
          · obtain ⟨g, hg⟩ := get_of_lt hlt
            obtain ⟨⟨a0, a1⟩, b0, b1'⟩ := valid_gate HE.out.2.2.1 hg
            obtain ⟨f1, f2, f3, f4⟩ := valid_first HE.out.2.2.1
            obtain ⟨p, hp⟩ : ∃ p : Nat, g.a = p := ⟨g.a.toNat, by omega⟩
            obtain ⟨q, hq⟩ : ∃ q : Nat, g.b = q := ⟨g.b.toNat, by omega⟩
            have hp1 : p < 100 := by omega
            have hq1 : q < 100 := by omega
            have hX := gtT_snoc hg
            rw [hp, hq, Int.toNat_natCast, Int.toNat_natCast] at hX
            have HX := Lib.hid hX
            obtain ⟨gb, gf, rfl, hgb, zx, zy⟩ := H0.out.2.2.2.1.gate (Below.refl _ _) hg
            rw [hp] at zx
            rw [hq] at zy
            have HGC : Hid (∀ W, Below W0.heap.size W0 W → (∀ o, W.cell? ⟨w.heap.size, o, none⟩ = #[Value.int .i64 I, .slice sn c.next.length cn, .slice (some ⟨gb, gf, none⟩) c.gates.length cg, .slice so c.outs.length co][o]?) ∧ W.cell? ⟨gb, gf + k * 2, none⟩ = some (.int .i64 p) ∧ W.cell? ⟨gb, gf + k * 2 + 1, none⟩ = some (.int .i64 q)) := fun W hW => by
              have h1 := HB.out _ hW
              exact ⟨h1.1, (h1.2.cell (p := ⟨gb, gf + k * 2, none⟩) hgb).trans zx, (h1.2.cell (p := ⟨gb, gf + k * 2 + 1, none⟩) hgb).trans zy⟩
            have hN4 : N ≤ 20 := by omega
            have HNN := Lib.hid hN
            clear hg hX hgb hN zx zy a0 a1 b0 b1' f1 f2 f3 f4 hp hq
            have hcat : (⟨#[103, 97, 116, 101, 32]⟩ : ByteArray) ++ ⟨(Lib.decDigits p).toArray⟩ = ⟨(lineT gateW [p]).toArray⟩ := cat_line1 gateW p
            have hcat2 := cat_line2 gateW p
            have hcat3 := cat_line3 gateW p q
            have hs1 : (⟨#[103, 97, 116, 101, 32]⟩ : ByteArray).size = 5 := rfl
            have hs1' : (⟨#[32]⟩ : ByteArray).size = 1 := rfl
            have hd1 := dec_len hp1
            have hd2 := dec_len hq1
            have hd3 : (lineT gateW [p]).length ≤ 7 := line_len (wd := gateW) hp1
            have n1 : ¬ 9223372036854775807 < 5 + (Lib.decDigits p).length := by omega
            have n2 : ¬ 9223372036854775807 < (lineT gateW [p]).length + 1 := by omega
            have n3 : ¬ 9223372036854775807 < (lineT gateW [p]).length + 1 + (Lib.decDigits q).length := by omega
            go_upto_region 11 with fail
            refine wp_region_T (fun w' => (∀ o, w'.cell? ⟨w.heap.size, o, none⟩ = #[Value.int .i64 I, .slice sn c.next.length cn, .slice (some ⟨gb, gf, none⟩) c.gates.length cg, .slice so c.outs.length co][o]?) ∧ w'.cell? ⟨gb, gf + k * 2, none⟩ = some (.int .i64 p) ∧ w'.cell? ⟨gb, gf + k * 2 + 1, none⟩ = some (.int .i64 q)) (.q 0 (.q 1 (.q 2 (.q 3 (.q 4 (.q 5 (.q 6 (.q 10 (.q 11 (.q 12 (.q 13 (.q 14 (.q 15 (.e 7 (.q 8 (.q 9 (.e 16 (.q 17 (.e 18 (.e 19 (.q 20 .nil))))))))))))))))))))) (by kernel_rfl) (by kernel_rfl) (by kernel_rfl) (HGC.out _ HF.out.bel.drew) ?_
            have hd := HF.out.below (Below.refl _ _).drew
            clear HF cb
            revert hd
            generalize wr.drew = wa
            intro hd
            have HF := Lib.hid hd
            clear hd
            repeat (first | (refine ordt_s (o := ?_) ?_ ?_ ?_; rotate_left 1; (focus ((simp only [List.getElem?_toArray, List.getElem?_cons_succ, List.getElem?_cons_zero]) <;> rfl)); (focus rfl); simp only [Act.put, List.setIfInBounds_toArray, List.set_cons_zero, List.set_cons_succ]) | (refine ordt_q (o := ?_) (v := ?_) ?_ ?_ ?_ ?_; rotate_left 2; (focus ((simp only [List.getElem?_toArray, List.getElem?_cons_succ, List.getElem?_cons_zero]) <;> rfl)); (focus rfl); (focus (intro w' hS; (try dsimp only at hS); go_split_ands; go_simp; (try (with_reducible rfl)))); simp only [Act.put, List.setIfInBounds_toArray, List.set_cons_zero, List.set_cons_succ]))
            refine ordt_e ?_
            (refine op_e (o := ?_) ?_ ?_ (fun K hK => ?_); rotate_left 1; (focus ((simp only [List.getElem?_toArray, List.getElem?_cons_succ, List.getElem?_cons_zero]) <;> rfl)); (focus rfl); go_simp)
            refine (l13P p hp1 _).mono ?_
            rintro e wb ⟨rfl, hq⟩
            have hf := HF.out.below hq
            refine hK.out _ _ (HGC.out _ hf.bel) ?_
            clear hK K HF hq
            have HF := Lib.hid hf
            clear hf
            unfold sv
            (try simp only [Act.put, List.setIfInBounds_toArray, List.set_cons_zero, List.set_cons_succ])
            repeat (first | (refine ordt_s (o := ?_) ?_ ?_ ?_; rotate_left 1; (focus ((simp only [List.getElem?_toArray, List.getElem?_cons_succ, List.getElem?_cons_zero]) <;> rfl)); (focus rfl); simp only [Act.put, List.setIfInBounds_toArray, List.set_cons_zero, List.set_cons_succ]) | (refine ordt_q (o := ?_) (v := ?_) ?_ ?_ ?_ ?_; rotate_left 2; (focus ((simp only [List.getElem?_toArray, List.getElem?_cons_succ, List.getElem?_cons_zero]) <;> rfl)); (focus rfl); (focus (intro w' hS; (try dsimp only at hS); go_split_ands; go_simp; (try (with_reducible rfl)))); simp only [Act.put, List.setIfInBounds_toArray, List.set_cons_zero, List.set_cons_succ]))
            refine ordt_e ?_
            (refine op_e (o := ?_) ?_ ?_ (fun K hK => ?_); rotate_left 1; (focus ((simp only [List.getElem?_toArray, List.getElem?_cons_succ, List.getElem?_cons_zero]) <;> rfl)); (focus rfl); go_simp)
            refine (l13P q hq1 _).mono ?_
            rintro e wc ⟨rfl, hq⟩
            have hf := HF.out.below hq
            refine hK.out _ _ (HGC.out _ hf.bel) ?_
            clear hK K HF hq
            have HF := Lib.hid hf
            clear hf
            unfold sv
            (try simp only [Act.put, List.setIfInBounds_toArray, List.set_cons_zero, List.set_cons_succ])
            repeat (first | (refine ordt_s (o := ?_) ?_ ?_ ?_; rotate_left 1; (focus ((simp only [List.getElem?_toArray, List.getElem?_cons_succ, List.getElem?_cons_zero]) <;> rfl)); (focus rfl); simp only [Act.put, List.setIfInBounds_toArray, List.set_cons_zero, List.set_cons_succ]) | (refine ordt_q (o := ?_) (v := ?_) ?_ ?_ ?_ ?_; rotate_left 2; (focus ((simp only [List.getElem?_toArray, List.getElem?_cons_succ, List.getElem?_cons_zero]) <;> rfl)); (focus rfl); (focus (intro w' hS; (try dsimp only at hS); go_split_ands; go_simp; (try (with_reducible rfl)))); simp only [Act.put, List.setIfInBounds_toArray, List.set_cons_zero, List.set_cons_succ]))
            refine ordt_e ?_
            (refine op_e (o := ?_) ?_ ?_ (fun K hK => ?_); rotate_left 1; (focus ((simp only [List.getElem?_toArray, List.getElem?_cons_succ, List.getElem?_cons_zero]) <;> rfl)); (focus rfl); go_simp)
            have hf := HF.out.alloc (.cells #[.string ⟨(lineT gateW [p, q]).toArray⟩] 9)
            have hs := Sl.new wc #[.string ⟨(lineT gateW [p, q]).toArray⟩] 9
            revert hf hs
            generalize wc.alloc (.cells #[.string ⟨(lineT gateW [p, q]).toArray⟩] 9) = wd
            intro hf hs
            refine hK.out _ _ (HGC.out _ hf.bel) ?_
            clear hK K HF
            have HF := Lib.hid (And.intro hf hs)
            clear hf hs
            (try simp only [Act.put, List.setIfInBounds_toArray, List.set_cons_zero, List.set_cons_succ])
            refine ordt_e ?_
            (refine op_e (o := ?_) ?_ ?_ (fun K hK => ?_); rotate_left 1; (focus ((simp only [List.getElem?_toArray, List.getElem?_cons_succ, List.getElem?_cons_zero]) <;> rfl)); (focus rfl))
            refine wp_app (.tmp 40) (.tmp 58) rfl elem_str HF.out.1.own rfl rfl (by simp) HF.out.2 (by simp [Value.oneCell']) (N + 1) rfl _ rfl (by unfold maxLen; omega) (by omega) HF.out.1.hN ?_
            intro s6 c6 W2 h6 hb6 hg6 hob6
            have hf := HF.out.1.push h6 hb6
            refine hK.out _ _ (HGC.out _ hf.bel) ?_
            clear hK K h6 hb6 hg6 hob6
            have H6 := Lib.hid hf
            clear hf
            (try simp only [Act.put, List.setIfInBounds_toArray, List.set_cons_zero, List.set_cons_succ])
            repeat (first | (refine ordt_s (o := ?_) ?_ ?_ ?_; rotate_left 1; (focus ((simp only [List.getElem?_toArray, List.getElem?_cons_succ, List.getElem?_cons_zero]) <;> rfl)); (focus rfl); simp only [Act.put, List.setIfInBounds_toArray, List.set_cons_zero, List.set_cons_succ]) | (refine ordt_q (o := ?_) (v := ?_) ?_ ?_ ?_ ?_; rotate_left 2; (focus ((simp only [List.getElem?_toArray, List.getElem?_cons_succ, List.getElem?_cons_zero]) <;> rfl)); (focus rfl); (focus (intro w' hS; (try dsimp only at hS); go_split_ands; go_simp; (try (with_reducible rfl)))); simp only [Act.put, List.setIfInBounds_toArray, List.set_cons_zero, List.set_cons_succ]))
            refine ordt_nil ?_
            go_wp2_with fail
            go_roundw
            case rel => exact ⟨k + 1, N + 1, s6, c6, by omega, by go_num, rfl, by have := HNN.out; omega, by rw [HX.out, ← List.append_assoc]; exact H6.out⟩
            case measure => simp [intOf]; omega
          · obtain rfl : k = c.gates.length := by omega
            clear hk
            go_wp2_with fail
            go_loopw [6, 3] (fun v6 v3 wr => ∃ (k N : Nat) (s : Option Addr) (cap : Nat), k ≤ c.outs.length ∧ v6 = .int .i64 k ∧ v3 = .slice s N cap ∧ N = 1 + c.next.length + c.gates.length + k ∧ FmS W0 (([lineT inputsW [I]] ++ nxT c c.next.length ++ gtT c c.gates.length) ++ otT c k) (.slice s N cap) N wr) (fun v6 _ _ => c.outs.length - (intOf v6).toNat)
            case atStart => exact ⟨0, N, _, _, Nat.zero_le _, rfl, rfl, by omega, by simpa [otT] using HF.out⟩
            case round =>
              clear HF hN hlt
              obtain ⟨k, N, s, cap, hk, rfl, rfl, hN, hf⟩ := hrel
              have HF := Lib.hid hf
              clear hf
              have cb := (HB.out _ HF.out.bel).1
              by_cases hlt : k < c.outs.length
              · obtain ⟨x, hx⟩ := get_of_lt hlt
                obtain ⟨m, rfl, hm⟩ := HE.out.2.2.2.2.1 x (List.mem_of_getElem? hx)
                obtain ⟨sb, sf, rfl, hsb, zx⟩ := H0.out.2.2.2.2.int (HB.out _ HF.out.bel).2 hx
                have HX := Lib.hid (otT_snoc hx)
                have hN4 : N ≤ 40 := by omega
                have HNN := Lib.hid hN
                clear hx hsb hN
                have hcat : (⟨#[111, 117, 116, 32]⟩ : ByteArray) ++ ⟨(Lib.decDigits m).toArray⟩ = ⟨(lineT outW [m]).toArray⟩ := cat_line1 outW m
                have hs1 : (⟨#[111, 117, 116, 32]⟩ : ByteArray).size = 4 := rfl
                have hs2 : (⟨(Lib.decDigits m).toArray⟩ : ByteArray).size ≤ 2 := by rw [size_mk]; exact dec_len hm
                go_wp2_with (first
                  | (go_at_call 29; (refine (l13P m hm _).mono ?_); rintro e w2 ⟨rfl, hq⟩; have H2 := Lib.hid (HF.out.below hq); clear hq cb zx; unfold sv)
                  | (at_builtin; go_loud (refine wpl_app rfl _ _ rfl elem_str (H2.out.alloc _).own rfl rfl rfl (Sl.new _ _ _) (by simp [Value.oneCell']) (N + 1) rfl _ rfl (by unfold maxLen; omega) (by omega) (H2.out.alloc _).hN ?_; intro s6 c6 w6 h6 hb6 hg6 hob6; have H6 := Lib.hid ((H2.out.alloc _).push h6 hb6); clear h6 hb6 hg6 hob6)))
                go_roundw
                case rel => exact ⟨k + 1, N + 1, s6, c6, by omega, by go_num, rfl, by have := HNN.out; omega, by rw [HX.out, ← List.append_assoc]; exact H6.out⟩
                case measure => simp [intOf]; omega
              · obtain rfl : k = c.outs.length := by omega
                have HNN := Lib.hid hN
                clear hN hk
                go_wp2_with fail
                go_ret
                have hr : fmtR c = ([lineT inputsW [I]] ++ nxT c c.next.length ++ gtT c c.gates.length) ++ otT c c.outs.length := by rw [HE.out.2.1]; unfold fmtC; rw [HE.out.2.2.2.2.2, Int.toNat_natCast]
                have hlen : (fmtR c).length = N := by rw [hr, HNN.out]; simp only [List.length_append, List.length_singleton, nxT_len (Nat.le_refl _), gtT_len (Nat.le_refl _), otT_len (Nat.le_refl _)]
                refine ⟨s, cap, by rw [hlen]; rfl, ?_, (HB.out _ HF.out.bel).2⟩
                rw [hlen, hr]
                exact own_base HF.out.own (by have := HZ.out; omega)

end Go.Proofs.YtnifgamlmaembaaDoor
