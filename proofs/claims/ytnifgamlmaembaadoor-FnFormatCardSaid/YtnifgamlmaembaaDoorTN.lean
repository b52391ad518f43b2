import Derived.Test.YtnifgamlmaembaaDoorTK
import Derived.Test.YtnifgamlmaembaaDoorG3
namespace Go.Proofs.YtnifgamlmaembaaDoor
set_option linter.unusedVariables false
set_option linter.unusedSimpArgs false
open Go.RowKit

/-! l13Line of the papers. -/

/-- Of the first k of the four words: the number of the last that is x. -/
def kN (x : Tx) : Nat → Int
  | 0 => -1
  | k + 1 => if [inputsW, latchW, gateW, outW][k]? = some x then k else kN x k
theorem kN4 (x : Tx) : kN x 4 = kindT x := by
  by_cases a : x = inputsW
  · subst a; decide
  · by_cases b : x = latchW
    · subst b; decide
    · by_cases d : x = gateW
      · subst d; decide
      · by_cases e : x = outW
        · subst e; decide
        · have a' : ¬ inputsW = x := fun h => a h.symm
          have b' : ¬ latchW = x := fun h => b h.symm
          have d' : ¬ gateW = x := fun h => d h.symm
          have e' : ¬ outW = x := fun h => e h.symm
          simp [kN, kindT, a, b, d, e, a', b', d', e']
theorem kN_len (x : Tx) : ∀ k, k ≤ 4 → -1 ≤ kN x k ∧ kN x k ≤ 3
  | 0, _ => by simp [kN]
  | k + 1, h => by
    have ih := kN_len x k (by omega)
    unfold kN
    split <;> omega

/-- The words of one line fit behind lines that stand at phase ph. -/
def okS (ph : Int) (fs : List Tx) : Prop :=
  0 ≤ kindT (fs.headD []) ∧ ph ≤ kindT (fs.headD []) ∧ (ph = 0 ↔ kindT (fs.headD []) = 0) ∧ fs.length = wantK (kindT (fs.headD [])) + 1 ∧ numsB fs.tail = true
/-- Only the circuit's own blocks may have turned. -/
def KpL (w : World) (vn vg vo : Value) (W : World) : Prop := ∀ k, k < w.heap.size → vn.ownBlock ≠ some k → vg.ownBlock ≠ some k → vo.ownBlock ≠ some k → W.heap[k]? = w.heap[k]?
theorem KpL.of {w W : World} {vn vg vo : Value} (h : Below w.heap.size w W) : KpL w vn vg vo W := fun k hk _ _ _ => h.block k hk
theorem KpL.set {w W : World} {vn vg vo v : Value} {b o : Nat} (h : KpL w vn vg vo W) (hb : w.heap.size ≤ b) : KpL w vn vg vo (W.setCell ⟨b, o, none⟩ v) := fun k hk h1 h2 h3 => by
  rw [Below.heap_setCell _ _ _ _ (by show k ≠ b; omega)]; exact h k hk h1 h2 h3
theorem KpL.set4 {w W : World} {vn vg vo a b c d : Value} {r : Nat} (h : KpL w vn vg vo W) (hr : w.heap.size ≤ r) : KpL w vn vg vo ((((W.setCell ⟨r, 0, none⟩ a).setCell ⟨r, 1, none⟩ b).setCell ⟨r, 2, none⟩ c).setCell ⟨r, 3, none⟩ d) :=
  (((h.set hr).set hr).set hr).set hr
theorem KpL.grow {w W W2 : World} {vn vg vo v : Value} (h : Below w.heap.size w W) (hg : W.grownBy W2 v.ownBlock) (hv : v = vn ∨ v = vg ∨ v = vo) : KpL w vn vg vo W2 := fun k hk h1 h2 h3 =>
  (hg.block k (Nat.lt_of_lt_of_le hk h.size) (fun e => by rcases hv with rfl | rfl | rfl <;> first | exact h1 e.symm | exact h2 e.symm | exact h3 e.symm)).trans (h.block k hk)
def LiPost (fs : List Tx) (c : Cir) (ph : Int) (base : Nat) (vn vg vo : Value) (w : World) (e : Ending) (w' : World) : Prop :=
  (okS ph fs ∧ ∃ (D : Cir) (vn' vg' vo' : Value), D = addP (kindT (fs.headD [])) (fs.tail.map numP) c ∧ e = .returned (.tuple #[.agg #[.int .i64 D.inp, vn', vg', vo'], .int .i64 (max 1 (kindT (fs.headD []))), .bool true]) ∧ CirOwn w' base D vn' vg' vo' ∧ Below base w w' ∧ KpL w vn vg vo w') ∨
  (¬ okS ph fs ∧ e = .returned (.tuple #[.agg #[.int .i64 c.inp, vn, vg, vo], .int .i64 ph, .bool false]) ∧ Below w.heap.size w w')

/-- The blocks of the call: the copy of the circuit, the result. -/
structure LiI (w : World) (base : Nat) (c : Cir) (vn vg vo : Value) (W : World) : Prop where
  res : W.heap[w.heap.size + 1]? = some (.cells #[.int .i64 0, .slice none 0 0, .slice none 0 0, .slice none 0 0] 31 (0, 0))
  out : OutC W base w.heap.size c.inp c.next c.gates c.outs vn vg vo
  bel : Below base w W
  sz : w.heap.size + 2 ≤ W.heap.size
  hb : base ≤ w.heap.size
theorem LiI.below {w W W' : World} {base : Nat} {c : Cir} {vn vg vo : Value} (h : LiI w base c vn vg vo W) (hb : Below W.heap.size W W') : LiI w base c vn vg vo W' :=
  ⟨blk_below hb (blk_lt h.res) h.res, h.out.below hb, h.bel.trans (hb.mono (Nat.le_trans h.hb h.bel.size)), Nat.le_trans h.sz hb.size, h.hb⟩
theorem LiI.alloc {w W : World} {base : Nat} {c : Cir} {vn vg vo : Value} (h : LiI w base c vn vg vo W) (o : Obj) : LiI w base c vn vg vo (W.alloc o) := h.below ((Below.refl _ _).alloc (Nat.le_refl _) _)
theorem LiI.upd {w W W2 : World} {base : Nat} {row : Option Nat} {c d : Cir} {vn vg vo vn' vg' vo' v : Value} {o : Nat} (h : LiI w base c vn vg vo W) (hb : Below base W W2) (hg : W.grownBy W2 row) (hr : row ≠ some (w.heap.size + 1))
    (ho : OutC (W2.setCell ⟨w.heap.size, o, none⟩ v) base w.heap.size d.inp d.next d.gates d.outs vn' vg' vo') : LiI w base d vn' vg' vo' (W2.setCell ⟨w.heap.size, o, none⟩ v) := by
  have hs := hb.size
  have h3 := h.sz
  refine ⟨blk_set_ne (by omega) ((hg.block _ (by omega) (fun e => hr e.symm)).trans h.res), ho, ?_, by simp; omega, h.hb⟩
  exact (h.bel.trans hb).setCell (p := ⟨w.heap.size, o, none⟩) (by simpa using h.hb) v

theorem li_ret {Q : Ending → World → Prop} {r : Nat} {W : World} {inp p : Int} {vn vg vo : Value} {b : Bool} {a : Act} (h0 : W.heap[r]? = some (.cells #[.int .i64 0, .slice none 0 0, .slice none 0 0, .slice none 0 0] 31 (0, 0)))
    (ha : a.tmps.getD 6 undef = .pointer (some ⟨r, 0, none⟩)) (h7 : a.tmps.getD 7 undef = .int .i64 p) (h8 : a.tmps.getD 8 undef = .bool b) (hd : a.defers = [])
    (hQ : Q (.returned (.tuple #[.agg #[.int .i64 inp, vn, vg, vo], .int .i64 p, .bool b])) ((((W.setCell ⟨r, 0, none⟩ (.int .i64 inp)).setCell ⟨r, 1, none⟩ vn).setCell ⟨r, 2, none⟩ vg).setCell ⟨r, 3, none⟩ vo)) :
    bodyPost Tryd.prog Tryd.f38 Q .ret a ((((W.setCell ⟨r, 0, none⟩ (.int .i64 inp)).setCell ⟨r, 1, none⟩ vn).setCell ⟨r, 2, none⟩ vg).setCell ⟨r, 3, none⟩ vo) := by
  have hZ : ((((W.setCell ⟨r, 0, none⟩ (.int .i64 inp)).setCell ⟨r, 1, none⟩ vn).setCell ⟨r, 2, none⟩ vg).setCell ⟨r, 3, none⟩ vo).heap[r]? = some (.cells #[.int .i64 inp, vn, vg, vo] 31 (0, 0)) := by
    simpa using blk_set (o := 3) (v := vo) (blk_set (o := 2) (v := vg) (blk_set (o := 1) (v := vn) (blk_set (o := 0) (v := .int .i64 inp) h0)))
  clear h0
  revert hZ hQ
  generalize ((((W.setCell ⟨r, 0, none⟩ (.int .i64 inp)).setCell ⟨r, 1, none⟩ vn).setCell ⟨r, 2, none⟩ vg).setCell ⟨r, 3, none⟩ vo) = WZ
  intro hQ hZ
  have cr := (blk_all hZ).1
  have ha' : a.tmps[6]?.getD undef = .pointer (some ⟨r, 0, none⟩) := by simpa using ha
  have h7' : a.tmps[7]?.getD undef = .int .i64 p := by simpa using h7
  have h8' : a.tmps[8]?.getD undef = .bool b := by simpa using h8
  exact bodyPost_ret (v := .tuple #[.agg #[.int .i64 inp, vn, vg, vo], .int .i64 p, .bool b]) (by simp [results, Tryd.results38, go_sem, cr, ha', h7', h8']) hd hQ

theorem li_bel {w W : World} {base r : Nat} {a b c d : Value} (h : Below base w W) (hr : base ≤ r) : Below base w ((((W.setCell ⟨r, 0, none⟩ a).setCell ⟨r, 1, none⟩ b).setCell ⟨r, 2, none⟩ c).setCell ⟨r, 3, none⟩ d) :=
  (((h.setCell (p := ⟨r, 0, none⟩) (by simpa using hr) _).setCell (p := ⟨r, 1, none⟩) (by simpa using hr) _).setCell (p := ⟨r, 2, none⟩) (by simpa using hr) _).setCell (p := ⟨r, 3, none⟩) (by simpa using hr) _
theorem li_set4 {w : World} {base r : Nat} {e : TypeId} {size : Nat} {v : Value} {n : Nat} {xs : List Value} (h : w.ownsRow base e size v n xs) (hne : v.ownBlock ≠ some r) {a b c d : Value} :
    ((((w.setCell ⟨r, 0, none⟩ a).setCell ⟨r, 1, none⟩ b).setCell ⟨r, 2, none⟩ c).setCell ⟨r, 3, none⟩ d).ownsRow base e size v n xs :=
  own_set_ne (own_set_ne (own_set_ne (own_set_ne h hne _) hne _) hne _) hne _
theorem li_own {W : World} {base r : Nat} {D : Cir} {vn vg vo : Value} {a b c d : Value} (h : CirOwn W base D vn vg vo) (hz : W.heap[r]? = some (.cells #[.int .i64 0, .slice none 0 0, .slice none 0 0, .slice none 0 0] 31 (0, 0))) : CirOwn ((((W.setCell ⟨r, 0, none⟩ a).setCell ⟨r, 1, none⟩ b).setCell ⟨r, 2, none⟩ c).setCell ⟨r, 3, none⟩ d) base D vn vg vo :=
  ⟨li_set4 h.n (own_tyb h.n hz (by decide)), li_set4 h.g (own_tyb h.g hz (by decide)), li_set4 h.o (own_tyb h.o hz (by decide)), h.ne, h.l1, h.l2, h.l3⟩

theorem okS_nums1 {fs : List Tx} {f0 x1 : Tx} (h0 : fs = [f0, x1]) : numsB fs.tail = true ↔ 0 ≤ numP x1 := by subst h0; simp [numsB]
theorem okS_nums2 {fs : List Tx} {f0 x1 x2 : Tx} (h0 : fs = [f0, x1, x2]) : numsB fs.tail = true ↔ 0 ≤ numP x1 ∧ 0 ≤ numP x2 := by subst h0; simp [numsB]

set_option maxRecDepth 100000 in
set_option maxHeartbeats 6400000 in
theorem l13Line_any (c : Cir) (sn sg so : Option Addr) (cn cg co base : Nat) (s0 : Option Addr) (cap0 : Nat) (fs : List Tx) (ph : Int) (w : World) (hbase : base ≤ w.heap.size) (hown : CirOwn w base c (.slice sn c.next.length cn) (.slice sg c.gates.length cg) (.slice so c.outs.length co)) (hs : Sl w s0 (strs fs)) (hf : 1 ≤ fs.length) (hl : fs.length ≤ 2000000)
    (hx : ∀ x ∈ fs, x.length ≤ 1048576) (hp0 : 0 ≤ ph) (hp3 : ph ≤ 3) (hcl : c.next.length + c.gates.length + c.outs.length ≤ 1048575) :
    Calls Tryd.prog 38 #[.agg #[.int .i64 c.inp, .slice sn c.next.length cn, .slice sg c.gates.length cg, .slice so c.outs.length co], .slice s0 fs.length cap0, .int .i64 ph] w (LiPost fs c ph base (.slice sn c.next.length cn) (.slice sg c.gates.length cg) (.slice so c.outs.length co) w) := by
  obtain ⟨f0, hf0⟩ : ∃ f0, fs[0]? = some f0 := get_of_lt (by omega)
  have hhd : fs.headD [] = f0 := by cases fs with
    | nil => simp at hf0
    | cons a r => simpa using hf0
  have h0 : LiI w base c (.slice sn c.next.length cn) (.slice sg c.gates.length cg) (.slice so c.outs.length co) ((w.alloc (.cells #[.int .i64 c.inp, .slice sn c.next.length cn, .slice sg c.gates.length cg, .slice so c.outs.length co] 31)).alloc (.cells #[.int .i64 0, .slice none 0 0, .slice none 0 0, .slice none 0 0] 31)) :=
    ⟨by simpa using blk_new (w.alloc (.cells #[.int .i64 c.inp, .slice sn c.next.length cn, .slice sg c.gates.length cg, .slice so c.outs.length co] 31)) (.cells #[.int .i64 0, .slice none 0 0, .slice none 0 0, .slice none 0 0] 31), ⟨blk_below (below_al _ _) (blk_lt (blk_new w _)) (blk_new w _), own_below hown.n (((Below.refl _ _).alloc (Nat.le_refl _) _).alloc (by simp) _), own_below hown.g (((Below.refl _ _).alloc (Nat.le_refl _) _).alloc (by simp) _), own_below hown.o (((Below.refl _ _).alloc (Nat.le_refl _) _).alloc (by simp) _), hown.ne⟩, ((Below.refl _ _).alloc hbase _).alloc (by simp; omega) _, by simp, hbase⟩
  have hbw0 : Below w.heap.size w (((w.alloc (.cells #[.int .i64 c.inp, .slice sn c.next.length cn, .slice sg c.gates.length cg, .slice so c.outs.length co] 31)).alloc (.cells #[.int .i64 0, .slice none 0 0, .slice none 0 0, .slice none 0 0] 31)).alloc (.cells #[.string {data := #[105, 110, 112, 117, 116, 115]}, .string {data := #[108, 97, 116, 99, 104]}, .string {data := #[103, 97, 116, 101]}, .string {data := #[111, 117, 116]}] 9)) := (((Below.refl _ _).alloc (Nat.le_refl _) _).alloc (by simp) _).alloc (by simp; omega) _
  have hwd : (((w.alloc (.cells #[.int .i64 c.inp, .slice sn c.next.length cn, .slice sg c.gates.length cg, .slice so c.outs.length co] 31)).alloc (.cells #[.int .i64 0, .slice none 0 0, .slice none 0 0, .slice none 0 0] 31)).alloc (.cells #[.string {data := #[105, 110, 112, 117, 116, 115]}, .string {data := #[108, 97, 116, 99, 104]}, .string {data := #[103, 97, 116, 101]}, .string {data := #[111, 117, 116]}] 9)).heap[w.heap.size + 2]? = some (.cells #[sv inputsW, sv latchW, sv gateW, sv outW] 9 (0, 0)) := (blk3 w (.cells #[.int .i64 c.inp, .slice sn c.next.length cn, .slice sg c.gates.length cg, .slice so c.outs.length co] 31) (.cells #[.int .i64 0, .slice none 0 0, .slice none 0 0, .slice none 0 0] 31) (.cells #[.string {data := #[105, 110, 112, 117, 116, 115]}, .string {data := #[108, 97, 116, 99, 104]}, .string {data := #[103, 97, 116, 101]}, .string {data := #[111, 117, 116]}] 9)).2.2.1
  have H0 := Lib.hid (And.intro (h0.alloc (.cells #[.string {data := #[105, 110, 112, 117, 116, 115]}, .string {data := #[108, 97, 116, 99, 104]}, .string {data := #[103, 97, 116, 101]}, .string {data := #[111, 117, 116]}] 9)) (And.intro hbw0 hwd))
  have HS := Lib.hid (And.intro hs (And.intro hx (And.intro hf0 (And.intro hhd hown))))
  clear h0 hbw0 hwd hs hx hf0 hhd hown
  go_enter Tryd.func38, Tryd.ntmps38
  go_upto_region 4 with fail
  revert H0
  generalize (((w.alloc (.cells #[.int .i64 c.inp, .slice sn c.next.length cn, .slice sg c.gates.length cg, .slice so c.outs.length co] 31)).alloc (.cells #[.int .i64 0, .slice none 0 0, .slice none 0 0, .slice none 0 0] 31)).alloc (.cells #[.string {data := #[105, 110, 112, 117, 116, 115]}, .string {data := #[108, 97, 116, 99, 104]}, .string {data := #[103, 97, 116, 101]}, .string {data := #[111, 117, 116]}] 9)) = W0
  intro H0
  rw [show w.heap.size + 1 + 1 = w.heap.size + 2 from rfl]
  go_loopw [11, 10] (fun v11 v10 wr => ∃ k : Nat, k ≤ 4 ∧ v11 = .int .i64 k ∧ v10 = .int .i64 (kN f0 k) ∧ Drew W0 wr) (fun v11 _ _ => 4 - (intOf v11).toNat)
  case atStart => exact ⟨0, Nat.zero_le _, rfl, rfl, Drew.refl _⟩
  case round =>
    obtain ⟨k, hk, rfl, rfl, hd⟩ := hrel
    have HD := Lib.hid hd
    clear hd
    by_cases hlt : k < 4
    · obtain ⟨y, hy⟩ : ∃ y, [inputsW, latchW, gateW, outW][k]? = some y := get_of_lt (l := [inputsW, latchW, gateW, outW]) hlt
      obtain ⟨sb, sf, rfl, hsb, zs⟩ := HS.out.1.str (H0.out.2.1.trans (HD.out.below _)) HS.out.2.2.1
      have zw : wr.cell? ⟨w.heap.size + 2, k, none⟩ = some (.string ⟨y.toArray⟩) := by
        rw [blk_cell (blk_below (HD.out.below W0.heap.size) (blk_lt H0.out.2.2) H0.out.2.2)]
        have h := congrArg (Option.map sv) hy
        rw [← List.getElem?_map] at h
        simpa [sv] using h
      unfold sv at zs
      rw [Nat.add_zero] at zs
      have HY := Lib.hid hy
      clear hy hsb
      cases hq : (y == f0)
      · have hkn : kN f0 (k + 1) = kN f0 k := by
          have h : y ≠ f0 := by simpa using hq
          show (if [inputsW, latchW, gateW, outW][k]? = some f0 then (k : Int) else kN f0 k) = kN f0 k
          rw [HY.out, if_neg (fun e => h (Option.some.inj e))]
        have HKN := Lib.hid hkn
        clear hkn
        go_wp2_with fail
        go_quiet (fail)
        go_wp2_with fail
        go_roundw
        case rel => exact ⟨k + 1, by omega, by go_num, by rw [HKN.out], HD.out.n _⟩
        case measure => simp [intOf]; omega
      · have hxy := eq_of_beq hq
        have hkn : kN f0 (k + 1) = k := by
          show (if [inputsW, latchW, gateW, outW][k]? = some f0 then (k : Int) else kN f0 k) = k
          rw [HY.out, if_pos (by rw [hxy])]
        have HKN := Lib.hid hkn
        clear hkn hxy
        go_wp2_with fail
        go_quiet (fail)
        go_wp2_with fail
        go_roundw
        case rel => exact ⟨k + 1, by omega, by go_num, by rw [HKN.out], HD.out.n _⟩
        case measure => simp [intOf]; omega
    · obtain rfl : k = 4 := by omega
      rw [kN4]
      clear hk hlt
      have HL := Lib.hid (H0.out.1.below (HD.out.below _))
      have HB := Lib.hid (H0.out.2.1.trans (HD.out.below _))
      obtain ⟨kd, hkd⟩ : ∃ kd, kd = kindT f0 := ⟨_, rfl⟩
      rw [← hkd]
      have hkc : kd = -1 ∨ kd = 0 ∨ kd = 1 ∨ kd = 2 ∨ kd = 3 := by rw [hkd]; exact kindT_cases _
      have HKD := Lib.hid (show kindT (fs.headD []) = kd by rw [HS.out.2.2.2.1, hkd])
      clear hkd
      rcases hkc with rfl | rfl | rfl | rfl | rfl
      · have HNO := Lib.hid (show ¬ okS ph fs from fun h => by have h1 := h.1; rw [HKD.out] at h1; omega)
        obtain ⟨cb, cf⟩ := blk_all HL.out.out.blk
        obtain ⟨rc, rf⟩ := blk_all HL.out.res
        go_wp2_with fail
        all_goals exact li_ret HL.out.res rfl rfl rfl rfl (.inr ⟨HNO.out, rfl, li_bel HB.out (Nat.le_succ _)⟩)
      · by_cases c3 : ph = 0
        · subst c3
          have e3 : ((0 : Int) == 0) = true := rfl
          have c3 : (0 : Int) = 0 := rfl
          have c4 : (0 : Int) ≤ 0 := Int.le_refl _
          by_cases c2 : fs.length = 2
          · obtain ⟨x1, hx1⟩ : ∃ x1, fs[1]? = some x1 := get_of_lt (by omega)
            obtain ⟨b1, f1, rfl, hb1, z1⟩ := HS.out.1.str HB.out hx1
            have hl1 := HS.out.2.1 x1 (List.mem_of_getElem? hx1)
            unfold sv at z1
            have hfs : fs = [f0, x1] := by
              have h0 := HS.out.2.2.1
              match fs, c2, h0, hx1 with
              | [p, q], _, h0, hx1 => simp at h0 hx1; rw [h0, hx1]
            have hnm := okS_nums1 hfs
            have HFS := Lib.hid (And.intro hfs hnm)
            clear hfs hnm hx1
            have HZ1 : Hid (∀ W, Below wr.heap.size wr W → W.cell? ⟨b1, f1 + 1, none⟩ = some (.string ⟨x1.toArray⟩)) := fun W hW => (hW.cell (p := ⟨b1, f1 + 1, none⟩) (Nat.lt_of_lt_of_le hb1 HB.out.size)).trans z1
            clear hb1
            go_upto_region 14 with (go_at_call 61; refine (l13Num_any x1 hl1 _).mono ?_; rintro e w1 ⟨rfl, hq⟩; have HQ1 := Lib.hid hq; clear hq z1; have z1 := HZ1.out _ HQ1.out)
            go_upto_region 15 with (go_at_call 61; refine (l13Num_any x1 hl1 _).mono ?_; rintro e w2 ⟨rfl, hq⟩; have HQ2 := Lib.hid (HQ1.out.trans (hq.mono HQ1.out.size)); clear hq z1)
            have HL2 := Lib.hid (HL.out.below HQ2.out)
            have HB2 := Lib.hid (HB.out.trans (HQ2.out.mono HB.out.size))
            clear HQ1 HQ2 HZ1
            obtain ⟨v1, hv1⟩ : ∃ v1, v1 = numP x1 := ⟨_, rfl⟩
            rw [← hv1]
            have HV := Lib.hid hv1
            clear hv1
            by_cases n1 : 0 ≤ v1
            · have HOK := Lib.hid (show okS 0 fs from ⟨by rw [HKD.out] <;> omega, by rw [HKD.out]; exact c4, by rw [HKD.out] <;> omega, by rw [HKD.out, c2]; rfl, HFS.out.2.2 (by rw [← HV.out]; exact n1)⟩)
              have hadd : ⟨v1, c.next, c.gates, c.outs⟩ = addP (kindT (fs.headD [])) (fs.tail.map numP) c := by
                rw [HKD.out, HFS.out.1]; unfold addP; simp [HV.out]
              have HADD := Lib.hid hadd
              clear hadd
              obtain ⟨cb, cf⟩ := blk_all HL2.out.out.blk
              go_upto_region 25 with fail
              have hl7 : LiI w base ⟨v1, c.next, c.gates, c.outs⟩ (.slice sn c.next.length cn) (.slice sg c.gates.length cg) (.slice so c.outs.length co) (w2.setCell ⟨w.heap.size, 0, none⟩ (.int .i64 v1)) :=
                HL2.out.upd (Below.refl _ _) (row := none) ⟨rfl, rfl, rfl, Nat.le_refl _, fun _ _ _ => rfl⟩ (by simp) ⟨by simpa using blk_set (o := 0) (v := .int .i64 v1) HL2.out.out.blk, own_set_ne HL2.out.out.n (own_tyb HL2.out.out.n HL2.out.out.blk (by decide)) _, own_set_ne HL2.out.out.g (own_tyb HL2.out.out.g HL2.out.out.blk (by decide)) _, own_set_ne HL2.out.out.o (own_tyb HL2.out.out.o HL2.out.out.blk (by decide)) _, HL2.out.out.ne⟩
              have HK7 := Lib.hid (KpL.of (vn := (.slice sn c.next.length cn)) (vg := (.slice sg c.gates.length cg)) (vo := (.slice so c.outs.length co)) (HB2.out.setCell (p := ⟨w.heap.size, 0, none⟩) (Nat.le_refl _) (.int .i64 v1)))
              clear cb cf
              revert hl7 HK7
              generalize (w2.setCell ⟨w.heap.size, 0, none⟩ (.int .i64 v1)) = W7
              intro hl7 HK7
              have hown2 : CirOwn W7 base ⟨v1, c.next, c.gates, c.outs⟩ (.slice sn c.next.length cn) (.slice sg c.gates.length cg) (.slice so c.outs.length co) := ⟨hl7.out.n, hl7.out.g, hl7.out.o, hl7.out.ne, by simp; omega, by simp; omega, by simp; omega⟩
              have HL7 := Lib.hid (And.intro hl7 hown2)
              clear hl7 hown2
              obtain ⟨cb, cf⟩ := blk_all HL7.out.1.out.blk
              obtain ⟨rc, rf⟩ := blk_all HL7.out.1.res
              go_wp2_with fail
              all_goals exact li_ret HL7.out.1.res rfl rfl rfl rfl (.inl ⟨HOK.out, _, _, _, _, HADD.out, by rw [HKD.out] <;> rfl, li_own HL7.out.2 HL7.out.1.res, li_bel HL7.out.1.bel (by have := HL7.out.1.hb; omega), HK7.out.set4 (Nat.le_succ _)⟩)
            · have HNO := Lib.hid (show ¬ okS 0 fs from fun h => by have h1 := h.2.2.2.2; rw [HFS.out.2, ← HV.out] at h1; omega)
              obtain ⟨cb, cf⟩ := blk_all HL2.out.out.blk
              obtain ⟨rc, rf⟩ := blk_all HL2.out.res
              go_wp2_with fail
              all_goals exact li_ret HL2.out.res rfl rfl rfl rfl (.inr ⟨HNO.out, rfl, li_bel HB2.out (Nat.le_succ _)⟩)
          · have e2 : ((fs.length : Int) == 2) = false := beq_eq_false_iff_ne.2 (by omega)
            have HNO := Lib.hid (show ¬ okS 0 fs from fun h => by have h1 := h.2.2.2.1; rw [HKD.out] at h1; unfold wantK at h1; split at h1 <;> omega)
            obtain ⟨cb, cf⟩ := blk_all HL.out.out.blk
            obtain ⟨rc, rf⟩ := blk_all HL.out.res
            go_wp2_with fail
            all_goals exact li_ret HL.out.res rfl rfl rfl rfl (.inr ⟨HNO.out, rfl, li_bel HB.out (Nat.le_succ _)⟩)
        · have e3 : (ph == 0) = false := beq_eq_false_iff_ne.2 c3
          have HNO := Lib.hid (show ¬ okS ph fs from fun h => by have h1 := h.2.2.1; rw [HKD.out] at h1; omega)
          obtain ⟨cb, cf⟩ := blk_all HL.out.out.blk
          obtain ⟨rc, rf⟩ := blk_all HL.out.res
          go_wp2_with fail
          all_goals exact li_ret HL.out.res rfl rfl rfl rfl (.inr ⟨HNO.out, rfl, li_bel HB.out (Nat.le_succ _)⟩)
      · by_cases c3 : ph = 0
        · subst c3
          have e3 : ((0 : Int) == 0) = true := rfl
          have c3 : (0 : Int) = 0 := rfl
          have HNO := Lib.hid (show ¬ okS 0 fs from fun h => by have h1 := h.2.2.1; rw [HKD.out] at h1; omega)
          obtain ⟨cb, cf⟩ := blk_all HL.out.out.blk
          obtain ⟨rc, rf⟩ := blk_all HL.out.res
          go_wp2_with fail
          all_goals exact li_ret HL.out.res rfl rfl rfl rfl (.inr ⟨HNO.out, rfl, li_bel HB.out (Nat.le_succ _)⟩)
        · have e3 : (ph == 0) = false := beq_eq_false_iff_ne.2 c3
          by_cases c4 : ph ≤ 1
          · have e4 : decide ((1 : Int) < ph) = false := decide_eq_false (by omega)
            by_cases c2 : fs.length = 2
            · obtain ⟨x1, hx1⟩ : ∃ x1, fs[1]? = some x1 := get_of_lt (by omega)
              obtain ⟨b1, f1, rfl, hb1, z1⟩ := HS.out.1.str HB.out hx1
              have hl1 := HS.out.2.1 x1 (List.mem_of_getElem? hx1)
              unfold sv at z1
              have hfs : fs = [f0, x1] := by
                have h0 := HS.out.2.2.1
                match fs, c2, h0, hx1 with
                | [p, q], _, h0, hx1 => simp at h0 hx1; rw [h0, hx1]
              have hnm := okS_nums1 hfs
              have HFS := Lib.hid (And.intro hfs hnm)
              clear hfs hnm hx1
              have HZ1 : Hid (∀ W, Below wr.heap.size wr W → W.cell? ⟨b1, f1 + 1, none⟩ = some (.string ⟨x1.toArray⟩)) := fun W hW => (hW.cell (p := ⟨b1, f1 + 1, none⟩) (Nat.lt_of_lt_of_le hb1 HB.out.size)).trans z1
              clear hb1
              go_upto_region 14 with (go_at_call 61; refine (l13Num_any x1 hl1 _).mono ?_; rintro e w1 ⟨rfl, hq⟩; have HQ1 := Lib.hid hq; clear hq z1; have z1 := HZ1.out _ HQ1.out)
              go_upto_region 15 with (go_at_call 61; refine (l13Num_any x1 hl1 _).mono ?_; rintro e w2 ⟨rfl, hq⟩; have HQ2 := Lib.hid (HQ1.out.trans (hq.mono HQ1.out.size)); clear hq z1)
              have HL2 := Lib.hid (HL.out.below HQ2.out)
              have HB2 := Lib.hid (HB.out.trans (HQ2.out.mono HB.out.size))
              clear HQ1 HQ2 HZ1
              obtain ⟨v1, hv1⟩ : ∃ v1, v1 = numP x1 := ⟨_, rfl⟩
              rw [← hv1]
              have HV := Lib.hid hv1
              clear hv1
              by_cases n1 : 0 ≤ v1
              · have HOK := Lib.hid (show okS ph fs from ⟨by rw [HKD.out] <;> omega, by rw [HKD.out]; exact c4, by rw [HKD.out] <;> omega, by rw [HKD.out, c2]; rfl, HFS.out.2.2 (by rw [← HV.out]; exact n1)⟩)
                have hadd : ⟨c.inp, c.next ++ [v1], c.gates, c.outs⟩ = addP (kindT (fs.headD [])) (fs.tail.map numP) c := by
                  rw [HKD.out, HFS.out.1]; unfold addP; simp [HV.out]
                have HADD := Lib.hid hadd
                clear hadd
                obtain ⟨cb, cf⟩ := blk_all HL2.out.out.blk
                have HL3 := Lib.hid (HL2.out.alloc (.cells #[.int .i64 v1] 3))
                have HB3 := Lib.hid (HB2.out.alloc HB2.out.size (.cells #[.int .i64 v1] 3))
                go_upto_region 25 with (at_builtin; go_loud (refine wpl_app rfl _ _ rfl elem_int HL3.out.out.n rfl rfl rfl (Sl.new w2 #[.int .i64 v1] 3) (by simp [Value.oneCell']) (c.next.length + 1) rfl (ints (c.next ++ [v1])) (by rw [← ints_append]; rfl) (by unfold maxLen; omega) (by omega) (by have h1 := HL3.out.sz; have h2 := HL3.out.hb; omega) ?_; intro s6 c6 W6 h6 hb6 hg6 hob6; obtain ⟨hB6, hO6⟩ := HL3.out.out.pushN hg6 (xn' := c.next ++ [v1]) (by rw [List.length_append]; exact h6) hob6; have hl7 : LiI w base ⟨c.inp, c.next ++ [v1], c.gates, c.outs⟩ (.slice s6 (c.next.length + 1) c6) (.slice sg c.gates.length cg) (.slice so c.outs.length co) (W6.setCell ⟨w.heap.size, 1, none⟩ (.slice s6 (c.next.length + 1) c6)) := HL3.out.upd hb6 hg6 (own_tyb HL3.out.out.n HL3.out.res (by decide)) hO6; have HL7 := Lib.hid hl7; have HK7 := Lib.hid ((KpL.grow (vn := (.slice sn c.next.length cn)) (vg := (.slice sg c.gates.length cg)) (vo := (.slice so c.outs.length co)) HB3.out hg6 (.inl rfl)).set (b := w.heap.size) (o := 1) (v := .slice s6 (c.next.length + 1) c6) (Nat.le_refl _)); have y1 : W6.cell? ⟨w.heap.size, 1, none⟩ = some (.slice sn c.next.length cn) := blk_cell hB6; have y2 : W6.frozen? ⟨w.heap.size, 1, none⟩ = false := blk_free hB6; clear hl7 hB6 hO6 h6 hb6 hg6 hob6 cb cf))
                clear y1 y2
                revert HL7 HK7
                generalize (W6.setCell ⟨w.heap.size, 1, none⟩ (.slice s6 (c.next.length + 1) c6)) = W7
                intro HL7 HK7
                have hl7 := HL7.out
                clear HL7
                have hown2 : CirOwn W7 base ⟨c.inp, c.next ++ [v1], c.gates, c.outs⟩ (.slice s6 (c.next.length + 1) c6) (.slice sg c.gates.length cg) (.slice so c.outs.length co) := ⟨by simpa using hl7.out.n, by simpa using hl7.out.g, by simpa using hl7.out.o, hl7.out.ne, by simp; omega, by simp; omega, by simp; omega⟩
                have HL7 := Lib.hid (And.intro hl7 hown2)
                clear hl7 hown2
                obtain ⟨cb, cf⟩ := blk_all HL7.out.1.out.blk
                obtain ⟨rc, rf⟩ := blk_all HL7.out.1.res
                go_wp2_with fail
                all_goals exact li_ret HL7.out.1.res rfl rfl rfl rfl (.inl ⟨HOK.out, _, _, _, _, HADD.out, by rw [HKD.out] <;> rfl, li_own HL7.out.2 HL7.out.1.res, li_bel HL7.out.1.bel (by have := HL7.out.1.hb; omega), HK7.out.set4 (Nat.le_succ _)⟩)
              · have HNO := Lib.hid (show ¬ okS ph fs from fun h => by have h1 := h.2.2.2.2; rw [HFS.out.2, ← HV.out] at h1; omega)
                obtain ⟨cb, cf⟩ := blk_all HL2.out.out.blk
                obtain ⟨rc, rf⟩ := blk_all HL2.out.res
                go_wp2_with fail
                all_goals exact li_ret HL2.out.res rfl rfl rfl rfl (.inr ⟨HNO.out, rfl, li_bel HB2.out (Nat.le_succ _)⟩)
            · have e2 : ((fs.length : Int) == 2) = false := beq_eq_false_iff_ne.2 (by omega)
              have HNO := Lib.hid (show ¬ okS ph fs from fun h => by have h1 := h.2.2.2.1; rw [HKD.out] at h1; unfold wantK at h1; split at h1 <;> omega)
              obtain ⟨cb, cf⟩ := blk_all HL.out.out.blk
              obtain ⟨rc, rf⟩ := blk_all HL.out.res
              go_wp2_with fail
              all_goals exact li_ret HL.out.res rfl rfl rfl rfl (.inr ⟨HNO.out, rfl, li_bel HB.out (Nat.le_succ _)⟩)
          · have HNO := Lib.hid (show ¬ okS ph fs from fun h => by have h1 := h.2.1; rw [HKD.out] at h1; omega)
            obtain ⟨cb, cf⟩ := blk_all HL.out.out.blk
            obtain ⟨rc, rf⟩ := blk_all HL.out.res
            go_wp2_with fail
            all_goals exact li_ret HL.out.res rfl rfl rfl rfl (.inr ⟨HNO.out, rfl, li_bel HB.out (Nat.le_succ _)⟩)
      · by_cases c3 : ph = 0
        · subst c3
          have e3 : ((0 : Int) == 0) = true := rfl
          have c3 : (0 : Int) = 0 := rfl
          have HNO := Lib.hid (show ¬ okS 0 fs from fun h => by have h1 := h.2.2.1; rw [HKD.out] at h1; omega)
          obtain ⟨cb, cf⟩ := blk_all HL.out.out.blk
          obtain ⟨rc, rf⟩ := blk_all HL.out.res
          go_wp2_with fail
          all_goals exact li_ret HL.out.res rfl rfl rfl rfl (.inr ⟨HNO.out, rfl, li_bel HB.out (Nat.le_succ _)⟩)
        · have e3 : (ph == 0) = false := beq_eq_false_iff_ne.2 c3
          by_cases c4 : ph ≤ 2
          · have e4 : decide ((2 : Int) < ph) = false := decide_eq_false (by omega)
            by_cases c2 : fs.length = 3
            · obtain ⟨x1, hx1⟩ : ∃ x1, fs[1]? = some x1 := get_of_lt (by omega)
              obtain ⟨b1, f1, rfl, hb1, z1⟩ := HS.out.1.str HB.out hx1
              have hl1 := HS.out.2.1 x1 (List.mem_of_getElem? hx1)
              unfold sv at z1
              obtain ⟨x2, hx2⟩ : ∃ x2, fs[2]? = some x2 := get_of_lt (by omega)
              obtain ⟨b2, f2, e2, hb2, z2⟩ := HS.out.1.str HB.out hx2
              cases e2
              have hl2 := HS.out.2.1 x2 (List.mem_of_getElem? hx2)
              unfold sv at z2
              have hfs : fs = [f0, x1, x2] := by
                have h0 := HS.out.2.2.1
                match fs, c2, h0, hx1, hx2 with
                | [p, q, r], _, h0, hx1, hx2 => simp at h0 hx1 hx2; rw [h0, hx1, hx2]
              have hnm := okS_nums2 hfs
              have HFS := Lib.hid (And.intro hfs hnm)
              clear hfs hnm hx1 hx2 hb2
              have HZ1 : Hid (∀ W, Below wr.heap.size wr W → W.cell? ⟨b1, f1 + 1, none⟩ = some (.string ⟨x1.toArray⟩) ∧ W.cell? ⟨b1, f1 + 2, none⟩ = some (.string ⟨x2.toArray⟩)) := fun W hW => ⟨(hW.cell (p := ⟨b1, f1 + 1, none⟩) (Nat.lt_of_lt_of_le hb1 HB.out.size)).trans z1, (hW.cell (p := ⟨b1, f1 + 2, none⟩) (Nat.lt_of_lt_of_le hb1 HB.out.size)).trans z2⟩
              clear hb1
              go_upto_region 14 with (go_at_call 61; refine (l13Num_any x1 hl1 _).mono ?_; rintro e w1 ⟨rfl, hq⟩; have HQ1 := Lib.hid hq; clear hq z1 z2; obtain ⟨z1, z2⟩ := HZ1.out _ HQ1.out)
              go_upto_region 15 with (go_at_call 61; refine (l13Num_any x2 hl2 _).mono ?_; rintro e w2 ⟨rfl, hq⟩; have HQ2 := Lib.hid (HQ1.out.trans (hq.mono HQ1.out.size)); clear hq z1 z2)
              have HL2 := Lib.hid (HL.out.below HQ2.out)
              have HB2 := Lib.hid (HB.out.trans (HQ2.out.mono HB.out.size))
              clear HQ1 HQ2 HZ1
              obtain ⟨v1, hv1⟩ : ∃ v1, v1 = numP x1 := ⟨_, rfl⟩
              rw [← hv1]
              obtain ⟨v2, hv2⟩ : ∃ v2, v2 = numP x2 := ⟨_, rfl⟩
              rw [← hv2]
              have HV := Lib.hid (And.intro hv1 hv2)
              clear hv1 hv2
              by_cases n1 : 0 ≤ v1
              · by_cases n2 : 0 ≤ v2
                · have HOK := Lib.hid (show okS ph fs from ⟨by rw [HKD.out] <;> omega, by rw [HKD.out]; exact c4, by rw [HKD.out] <;> omega, by rw [HKD.out, c2]; rfl, HFS.out.2.2 ⟨by rw [← HV.out.1]; exact n1, by rw [← HV.out.2]; exact n2⟩⟩)
                  have hadd : ⟨c.inp, c.next, c.gates ++ [⟨v1, v2⟩], c.outs⟩ = addP (kindT (fs.headD [])) (fs.tail.map numP) c := by
                    rw [HKD.out, HFS.out.1]; unfold addP; simp [HV.out.1, HV.out.2]
                  have HADD := Lib.hid hadd
                  clear hadd
                  obtain ⟨cb, cf⟩ := blk_all HL2.out.out.blk
                  have HL3 := Lib.hid (HL2.out.alloc (.cells #[.int .i64 v1, .int .i64 v2] 52))
                  have HB3 := Lib.hid (HB2.out.alloc HB2.out.size (.cells #[.int .i64 v1, .int .i64 v2] 52))
                  go_upto_region 25 with (at_builtin; go_loud (refine wpl_app rfl _ _ rfl elem_gate HL3.out.out.g rfl rfl rfl (Sl.new w2 #[.int .i64 v1, .int .i64 v2] 52) (by simp [Value.oneCell']) (c.gates.length + 1) rfl (gcells (c.gates ++ [⟨v1, v2⟩])) (by rw [← gcells_append]; rfl) (by unfold maxLen; omega) (by omega) (by have h1 := HL3.out.sz; have h2 := HL3.out.hb; omega) ?_; intro s6 c6 W6 h6 hb6 hg6 hob6; obtain ⟨hB6, hO6⟩ := HL3.out.out.pushG hg6 (xg' := c.gates ++ [⟨v1, v2⟩]) (by rw [List.length_append]; exact h6); have hl7 : LiI w base ⟨c.inp, c.next, c.gates ++ [⟨v1, v2⟩], c.outs⟩ (.slice sn c.next.length cn) (.slice s6 (c.gates.length + 1) c6) (.slice so c.outs.length co) (W6.setCell ⟨w.heap.size, 2, none⟩ (.slice s6 (c.gates.length + 1) c6)) := HL3.out.upd hb6 hg6 (own_tyb HL3.out.out.g HL3.out.res (by decide)) hO6; have HL7 := Lib.hid hl7; have HK7 := Lib.hid ((KpL.grow (vn := (.slice sn c.next.length cn)) (vg := (.slice sg c.gates.length cg)) (vo := (.slice so c.outs.length co)) HB3.out hg6 (.inr (.inl rfl))).set (b := w.heap.size) (o := 2) (v := .slice s6 (c.gates.length + 1) c6) (Nat.le_refl _)); have y1 : W6.cell? ⟨w.heap.size, 2, none⟩ = some (.slice sg c.gates.length cg) := blk_cell hB6; have y2 : W6.frozen? ⟨w.heap.size, 2, none⟩ = false := blk_free hB6; clear hl7 hB6 hO6 h6 hb6 hg6 hob6 cb cf))
                  clear y1 y2
                  revert HL7 HK7
                  generalize (W6.setCell ⟨w.heap.size, 2, none⟩ (.slice s6 (c.gates.length + 1) c6)) = W7
                  intro HL7 HK7
                  have hl7 := HL7.out
                  clear HL7
                  have hown2 : CirOwn W7 base ⟨c.inp, c.next, c.gates ++ [⟨v1, v2⟩], c.outs⟩ (.slice sn c.next.length cn) (.slice s6 (c.gates.length + 1) c6) (.slice so c.outs.length co) := ⟨by simpa using hl7.out.n, by simpa using hl7.out.g, by simpa using hl7.out.o, hl7.out.ne, by simp; omega, by simp; omega, by simp; omega⟩
                  have HL7 := Lib.hid (And.intro hl7 hown2)
                  clear hl7 hown2
                  obtain ⟨cb, cf⟩ := blk_all HL7.out.1.out.blk
                  obtain ⟨rc, rf⟩ := blk_all HL7.out.1.res
                  go_wp2_with fail
                  all_goals exact li_ret HL7.out.1.res rfl rfl rfl rfl (.inl ⟨HOK.out, _, _, _, _, HADD.out, by rw [HKD.out] <;> rfl, li_own HL7.out.2 HL7.out.1.res, li_bel HL7.out.1.bel (by have := HL7.out.1.hb; omega), HK7.out.set4 (Nat.le_succ _)⟩)
                · have HNO := Lib.hid (show ¬ okS ph fs from fun h => by have h1 := h.2.2.2.2; rw [HFS.out.2, ← HV.out.1, ← HV.out.2] at h1; omega)
                  obtain ⟨cb, cf⟩ := blk_all HL2.out.out.blk
                  obtain ⟨rc, rf⟩ := blk_all HL2.out.res
                  go_wp2_with fail
                  all_goals exact li_ret HL2.out.res rfl rfl rfl rfl (.inr ⟨HNO.out, rfl, li_bel HB2.out (Nat.le_succ _)⟩)
              · have HNO := Lib.hid (show ¬ okS ph fs from fun h => by have h1 := h.2.2.2.2; rw [HFS.out.2, ← HV.out.1, ← HV.out.2] at h1; omega)
                obtain ⟨cb, cf⟩ := blk_all HL2.out.out.blk
                obtain ⟨rc, rf⟩ := blk_all HL2.out.res
                go_wp2_with fail
                all_goals exact li_ret HL2.out.res rfl rfl rfl rfl (.inr ⟨HNO.out, rfl, li_bel HB2.out (Nat.le_succ _)⟩)
            · have e2 : ((fs.length : Int) == 3) = false := beq_eq_false_iff_ne.2 (by omega)
              have HNO := Lib.hid (show ¬ okS ph fs from fun h => by have h1 := h.2.2.2.1; rw [HKD.out] at h1; unfold wantK at h1; split at h1 <;> omega)
              obtain ⟨cb, cf⟩ := blk_all HL.out.out.blk
              obtain ⟨rc, rf⟩ := blk_all HL.out.res
              go_wp2_with fail
              all_goals exact li_ret HL.out.res rfl rfl rfl rfl (.inr ⟨HNO.out, rfl, li_bel HB.out (Nat.le_succ _)⟩)
          · have HNO := Lib.hid (show ¬ okS ph fs from fun h => by have h1 := h.2.1; rw [HKD.out] at h1; omega)
            obtain ⟨cb, cf⟩ := blk_all HL.out.out.blk
            obtain ⟨rc, rf⟩ := blk_all HL.out.res
            go_wp2_with fail
            all_goals exact li_ret HL.out.res rfl rfl rfl rfl (.inr ⟨HNO.out, rfl, li_bel HB.out (Nat.le_succ _)⟩)
      · by_cases c3 : ph = 0
        · subst c3
          have e3 : ((0 : Int) == 0) = true := rfl
          have c3 : (0 : Int) = 0 := rfl
          have HNO := Lib.hid (show ¬ okS 0 fs from fun h => by have h1 := h.2.2.1; rw [HKD.out] at h1; omega)
          obtain ⟨cb, cf⟩ := blk_all HL.out.out.blk
          obtain ⟨rc, rf⟩ := blk_all HL.out.res
          go_wp2_with fail
          all_goals exact li_ret HL.out.res rfl rfl rfl rfl (.inr ⟨HNO.out, rfl, li_bel HB.out (Nat.le_succ _)⟩)
        · have e3 : (ph == 0) = false := beq_eq_false_iff_ne.2 c3
          by_cases c4 : ph ≤ 3
          · have e4 : decide ((3 : Int) < ph) = false := decide_eq_false (by omega)
            by_cases c2 : fs.length = 2
            · obtain ⟨x1, hx1⟩ : ∃ x1, fs[1]? = some x1 := get_of_lt (by omega)
              obtain ⟨b1, f1, rfl, hb1, z1⟩ := HS.out.1.str HB.out hx1
              have hl1 := HS.out.2.1 x1 (List.mem_of_getElem? hx1)
              unfold sv at z1
              have hfs : fs = [f0, x1] := by
                have h0 := HS.out.2.2.1
                match fs, c2, h0, hx1 with
                | [p, q], _, h0, hx1 => simp at h0 hx1; rw [h0, hx1]
              have hnm := okS_nums1 hfs
              have HFS := Lib.hid (And.intro hfs hnm)
              clear hfs hnm hx1
              have HZ1 : Hid (∀ W, Below wr.heap.size wr W → W.cell? ⟨b1, f1 + 1, none⟩ = some (.string ⟨x1.toArray⟩)) := fun W hW => (hW.cell (p := ⟨b1, f1 + 1, none⟩) (Nat.lt_of_lt_of_le hb1 HB.out.size)).trans z1
              clear hb1
              go_upto_region 14 with (go_at_call 61; refine (l13Num_any x1 hl1 _).mono ?_; rintro e w1 ⟨rfl, hq⟩; have HQ1 := Lib.hid hq; clear hq z1; have z1 := HZ1.out _ HQ1.out)
              go_upto_region 15 with (go_at_call 61; refine (l13Num_any x1 hl1 _).mono ?_; rintro e w2 ⟨rfl, hq⟩; have HQ2 := Lib.hid (HQ1.out.trans (hq.mono HQ1.out.size)); clear hq z1)
              have HL2 := Lib.hid (HL.out.below HQ2.out)
              have HB2 := Lib.hid (HB.out.trans (HQ2.out.mono HB.out.size))
              clear HQ1 HQ2 HZ1
              obtain ⟨v1, hv1⟩ : ∃ v1, v1 = numP x1 := ⟨_, rfl⟩
              rw [← hv1]
              have HV := Lib.hid hv1
              clear hv1
              by_cases n1 : 0 ≤ v1
              · have HOK := Lib.hid (show okS ph fs from ⟨by rw [HKD.out] <;> omega, by rw [HKD.out]; exact c4, by rw [HKD.out] <;> omega, by rw [HKD.out, c2]; rfl, HFS.out.2.2 (by rw [← HV.out]; exact n1)⟩)
                have hadd : ⟨c.inp, c.next, c.gates, c.outs ++ [v1]⟩ = addP (kindT (fs.headD [])) (fs.tail.map numP) c := by
                  rw [HKD.out, HFS.out.1]; unfold addP; simp [HV.out]
                have HADD := Lib.hid hadd
                clear hadd
                obtain ⟨cb, cf⟩ := blk_all HL2.out.out.blk
                have HL3 := Lib.hid (HL2.out.alloc (.cells #[.int .i64 v1] 3))
                have HB3 := Lib.hid (HB2.out.alloc HB2.out.size (.cells #[.int .i64 v1] 3))
                go_upto_region 25 with (at_builtin; go_loud (refine wpl_app rfl _ _ rfl elem_int HL3.out.out.o rfl rfl rfl (Sl.new w2 #[.int .i64 v1] 3) (by simp [Value.oneCell']) (c.outs.length + 1) rfl (ints (c.outs ++ [v1])) (by rw [← ints_append]; rfl) (by unfold maxLen; omega) (by omega) (by have h1 := HL3.out.sz; have h2 := HL3.out.hb; omega) ?_; intro s6 c6 W6 h6 hb6 hg6 hob6; obtain ⟨hB6, hO6⟩ := HL3.out.out.pushO hg6 (xo' := c.outs ++ [v1]) (by rw [List.length_append]; exact h6) hob6; have hl7 : LiI w base ⟨c.inp, c.next, c.gates, c.outs ++ [v1]⟩ (.slice sn c.next.length cn) (.slice sg c.gates.length cg) (.slice s6 (c.outs.length + 1) c6) (W6.setCell ⟨w.heap.size, 3, none⟩ (.slice s6 (c.outs.length + 1) c6)) := HL3.out.upd hb6 hg6 (own_tyb HL3.out.out.o HL3.out.res (by decide)) hO6; have HL7 := Lib.hid hl7; have HK7 := Lib.hid ((KpL.grow (vn := (.slice sn c.next.length cn)) (vg := (.slice sg c.gates.length cg)) (vo := (.slice so c.outs.length co)) HB3.out hg6 (.inr (.inr rfl))).set (b := w.heap.size) (o := 3) (v := .slice s6 (c.outs.length + 1) c6) (Nat.le_refl _)); have y1 : W6.cell? ⟨w.heap.size, 3, none⟩ = some (.slice so c.outs.length co) := blk_cell hB6; have y2 : W6.frozen? ⟨w.heap.size, 3, none⟩ = false := blk_free hB6; clear hl7 hB6 hO6 h6 hb6 hg6 hob6 cb cf))
                clear y1 y2
                revert HL7 HK7
                generalize (W6.setCell ⟨w.heap.size, 3, none⟩ (.slice s6 (c.outs.length + 1) c6)) = W7
                intro HL7 HK7
                have hl7 := HL7.out
                clear HL7
                have hown2 : CirOwn W7 base ⟨c.inp, c.next, c.gates, c.outs ++ [v1]⟩ (.slice sn c.next.length cn) (.slice sg c.gates.length cg) (.slice s6 (c.outs.length + 1) c6) := ⟨by simpa using hl7.out.n, by simpa using hl7.out.g, by simpa using hl7.out.o, hl7.out.ne, by simp; omega, by simp; omega, by simp; omega⟩
                have HL7 := Lib.hid (And.intro hl7 hown2)
                clear hl7 hown2
                obtain ⟨cb, cf⟩ := blk_all HL7.out.1.out.blk
                obtain ⟨rc, rf⟩ := blk_all HL7.out.1.res
                go_wp2_with fail
                all_goals exact li_ret HL7.out.1.res rfl rfl rfl rfl (.inl ⟨HOK.out, _, _, _, _, HADD.out, by rw [HKD.out] <;> rfl, li_own HL7.out.2 HL7.out.1.res, li_bel HL7.out.1.bel (by have := HL7.out.1.hb; omega), HK7.out.set4 (Nat.le_succ _)⟩)
              · have HNO := Lib.hid (show ¬ okS ph fs from fun h => by have h1 := h.2.2.2.2; rw [HFS.out.2, ← HV.out] at h1; omega)
                obtain ⟨cb, cf⟩ := blk_all HL2.out.out.blk
                obtain ⟨rc, rf⟩ := blk_all HL2.out.res
                go_wp2_with fail
                all_goals exact li_ret HL2.out.res rfl rfl rfl rfl (.inr ⟨HNO.out, rfl, li_bel HB2.out (Nat.le_succ _)⟩)
            · have e2 : ((fs.length : Int) == 2) = false := beq_eq_false_iff_ne.2 (by omega)
              have HNO := Lib.hid (show ¬ okS ph fs from fun h => by have h1 := h.2.2.2.1; rw [HKD.out] at h1; unfold wantK at h1; split at h1 <;> omega)
              obtain ⟨cb, cf⟩ := blk_all HL.out.out.blk
              obtain ⟨rc, rf⟩ := blk_all HL.out.res
              go_wp2_with fail
              all_goals exact li_ret HL.out.res rfl rfl rfl rfl (.inr ⟨HNO.out, rfl, li_bel HB.out (Nat.le_succ _)⟩)
          · have HNO := Lib.hid (show ¬ okS ph fs from fun h => by have h1 := h.2.1; rw [HKD.out] at h1; omega)
            obtain ⟨cb, cf⟩ := blk_all HL.out.out.blk
            obtain ⟨rc, rf⟩ := blk_all HL.out.res
            go_wp2_with fail
            all_goals exact li_ret HL.out.res rfl rfl rfl rfl (.inr ⟨HNO.out, rfl, li_bel HB.out (Nat.le_succ _)⟩)

end Go.Proofs.YtnifgamlmaembaaDoor
