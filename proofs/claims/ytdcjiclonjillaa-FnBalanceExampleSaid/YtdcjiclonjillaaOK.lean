import Derived.Test.YtdcjiclonjillaaOD
import Derived.Test.YtdcjiclonjillaaM1
import Derived.Laws.StructEq
namespace Go.Proofs.Ytdcjiclonjillaa
set_option linter.unusedVariables false
set_option linter.unusedSimpArgs false
open Go.RowKit

/-! What the program marks as reached, and what the reference marks as used. -/

def setV (u : List Bool) (l : Int) : List Bool := u.set (l / 2).toNat true
theorem setV_length (u : List Bool) (l : Int) : (setV u l).length = u.length := by simp [setV]
theorem setV_nat {u : List Bool} {l : Int} {q : Nat} (h : l / 2 = q) : setV u l = u.set q true := by unfold setV; rw [h, Int.toNat_natCast]
theorem setV_keep {u : List Bool} {l : Int} {k : Nat} (h : u[k]? = some true) : (setV u l)[k]? = some true := by
  unfold setV
  have hl := (List.getElem?_eq_some_iff.1 h).1
  by_cases e : (l / 2).toNat = k
  · subst e; simp [hl]
  · rw [List.getElem?_set_ne e]; exact h
def rch0 (V : Nat) (roots : List Int) : List Bool := roots.foldl setV (List.replicate V false)
theorem rch0_length (V : Nat) (roots : List Int) : (rch0 V roots).length = V := by
  have : ∀ (u : List Bool), (roots.foldl setV u).length = u.length := by
    induction roots with
    | nil => intro u; rfl
    | cons r rs ih => intro u; simp only [List.foldl_cons]; rw [ih, setV_length]
  unfold rch0; rw [this]; simp
theorem rch0_snoc {V : Nat} {roots : List Int} {k : Nat} {l : Int} (h : roots[k]? = some l) : rch0 V (roots.take (k + 1)) = setV (rch0 V (roots.take k)) l := by
  unfold rch0; rw [List.take_add_one, h]; simp
def rchS (F : Nat) (gs : List Gt) (k : Nat) (u : List Bool) : List Bool :=
  match gs[k]? with
  | some g => if u.getD (F + k) false then setV (setV u g.a) g.b else u
  | none => u
theorem rchS_some {F : Nat} {gs : List Gt} {k : Nat} {u : List Bool} {g : Gt} {x : Bool} (hg : gs[k]? = some g) (hx : u[F + k]? = some x) : rchS F gs k u = if x then setV (setV u g.a) g.b else u := by
  have e : u.getD (F + k) false = x := by rw [List.getD_eq_getElem?_getD, hx]; rfl
  unfold rchS
  rw [hg]
  show (if u.getD (F + k) false then _ else _) = _
  rw [e]
def rchK (F : Nat) (gs : List Gt) : Nat → List Bool → List Bool
  | 0, u => u
  | k + 1, u => rchK F gs k (rchS F gs k u)
def rchL (c : Cir) : List Bool := rchK c.first.toNat c.gates c.gates.length (rch0 c.vars.toNat (c.next ++ c.outs))
theorem drop_setV {F : Nat} {u : List Bool} {l : Int} (h0 : 0 ≤ l) : (setV u l).drop F = markU F (u.drop F) l := by
  obtain ⟨q, hq⟩ : ∃ q : Nat, l / 2 = q := ⟨(l / 2).toNat, by omega⟩
  rw [setV_nat hq]
  by_cases hF : F ≤ q
  · rw [markU_yes (q := q - F) (by omega)]
    apply List.ext_getElem?
    intro i
    rw [List.getElem?_drop, List.getElem?_set, List.getElem?_set, List.getElem?_drop, List.length_drop]
    by_cases e : q = F + i
    · rw [if_pos e, if_pos (show q - F = i by omega)]
      by_cases hl : q < u.length
      · rw [if_pos hl, if_pos (by omega)]
      · rw [if_neg hl, if_neg (by omega)]
    · rw [if_neg e, if_neg (show ¬ q - F = i by omega)]
  · rw [markU_no (by omega)]
    apply List.ext_getElem?
    intro i
    rw [List.getElem?_drop, List.getElem?_drop, List.getElem?_set_ne (by omega)]
theorem drop_getD (u : List Bool) (F k : Nat) : (u.drop F).getD k false = u.getD (F + k) false := by
  rw [List.getD_eq_getElem?_getD, List.getD_eq_getElem?_getD, List.getElem?_drop]
theorem drop_rchS {F : Nat} {gs : List Gt} {k : Nat} {u : List Bool} (hg : ∀ g ∈ gs, 0 ≤ g.a ∧ 0 ≤ g.b) : (rchS F gs k u).drop F = usedS F gs k (u.drop F) := by
  unfold rchS usedS
  cases e : gs[k]? with
  | none => rfl
  | some g =>
    have h := hg g (List.mem_of_getElem? e)
    show (if u.getD (F + k) false then setV (setV u g.a) g.b else u).drop F = (if (u.drop F).getD k false then markU F (markU F (u.drop F) g.a) g.b else u.drop F)
    rw [drop_getD]
    split
    · rw [drop_setV h.2, drop_setV h.1]
    · rfl
theorem drop_rchK {F : Nat} {gs : List Gt} (hg : ∀ g ∈ gs, 0 ≤ g.a ∧ 0 ≤ g.b) : ∀ (k : Nat) (u : List Bool), (rchK F gs k u).drop F = usedK F gs k (u.drop F)
  | 0, _ => rfl
  | k + 1, u => by unfold rchK usedK; rw [drop_rchK hg k, drop_rchS hg]
theorem markU_comm (F : Int) (u : List Bool) (l m : Int) : markU F (markU F u l) m = markU F (markU F u m) l := by
  unfold markU
  by_cases h1 : F ≤ l / 2 <;> by_cases h2 : F ≤ m / 2
  · rw [if_pos h1, if_pos h2, if_pos h2, if_pos h1]
    by_cases e : (l / 2 - F).toNat = (m / 2 - F).toNat
    · rw [e]
    · exact List.set_comm _ _ e
  · simp [h1, h2]
  · simp [h1, h2]
  · simp [h1, h2]
theorem foldl_mark (F : Int) (l : Int) : ∀ (rs : List Int) (u : List Bool), rs.foldl (markU F) (markU F u l) = markU F (rs.foldl (markU F) u) l
  | [], _ => rfl
  | r :: rs, u => by simp only [List.foldl_cons]; rw [markU_comm F u l r, foldl_mark F l rs]
theorem foldl_swap (F : Int) : ∀ (xs ys : List Int) (u : List Bool), (xs ++ ys).foldl (markU F) u = (ys ++ xs).foldl (markU F) u
  | [], ys, u => by simp
  | x :: xs, ys, u => by
    rw [List.cons_append, List.foldl_cons, foldl_swap F xs ys, List.foldl_append, List.foldl_append, List.foldl_cons, foldl_mark F x ys u]
theorem drop_rch0 {F n : Nat} (roots : List Int) (h0 : ∀ l ∈ roots, 0 ≤ l) : (rch0 (F + n) roots).drop F = used0 F n roots := by
  have : ∀ (u : List Bool), (roots.foldl setV u).drop F = roots.foldl (markU F) (u.drop F) := by
    induction roots with
    | nil => intro u; rfl
    | cons r rs ih =>
      intro u
      simp only [List.foldl_cons]
      rw [ih (fun l hl => h0 l (by simp [hl])), drop_setV (h0 r (by simp))]
  unfold rch0 used0
  rw [this, List.drop_replicate]
  congr 2
  omega
theorem rchL_drop {c : Cir} (hv : c.wide) : (rchL c).drop c.first.toNat = usedL c := by
  have hl := hv.lim
  obtain ⟨F, hF⟩ : ∃ F : Nat, c.first = F := ⟨c.first.toNat, by have := hl.1; unfold Cir.first; omega⟩
  have hV : c.vars.toNat = F + c.gates.length := by
    have : c.vars = c.first + c.gates.length := rfl
    omega
  have hg : ∀ g ∈ c.gates, 0 ≤ g.a ∧ 0 ≤ g.b := fun g hg => by
    obtain ⟨i, hi⟩ := List.mem_iff_getElem?.1 hg
    have := gatesP_at hv.gates hi
    exact ⟨this.1.1, this.2.1⟩
  unfold rchL usedL
  rw [hF, Int.toNat_natCast, drop_rchK hg, hV, drop_rch0 _ (fun l hl => by
    rcases List.mem_append.1 hl with h | h
    · exact (hv.next l h).1
    · exact (hv.outs l h).1)]
  congr 1
  exact foldl_swap _ _ _ _
theorem rchS_length (F : Nat) (gs : List Gt) (k : Nat) (u : List Bool) : (rchS F gs k u).length = u.length := by
  unfold rchS
  split
  · split
    · rw [setV_length, setV_length]
    · rfl
  · rfl
theorem rchK_length (F : Nat) (gs : List Gt) : ∀ (k : Nat) (u : List Bool), (rchK F gs k u).length = u.length
  | 0, _ => rfl
  | k + 1, u => by unfold rchK; rw [rchK_length F gs k, rchS_length]
theorem rchL_length (c : Cir) : (rchL c).length = c.vars.toNat := by unfold rchL; rw [rchK_length, rch0_length]
theorem rchL_get {c : Cir} (hv : c.wide) (k : Nat) : (rchL c)[c.first.toNat + k]? = (usedL c)[k]? := by
  rw [← rchL_drop hv, List.getElem?_drop]

/-! The program's reached. -/

set_option maxRecDepth 100000 in
set_option maxHeartbeats 3200000 in
theorem reached_any (b : Nat) (sn sg so : Option Addr) (cn cg co : Nat) (c : Cir) (w : World) (h : CirAt w b c.inp (.slice sn c.next.length cn) (.slice sg c.gates.length cg) (.slice so c.outs.length co)) (hn : Sl w sn (ints c.next)) (hg : Sl w sg (gcells c.gates)) (ho : Sl w so (ints c.outs)) (hv : c.wide) :
    Calls Try.prog 72 #[.pointer (some ⟨b, 0, none⟩)] w fun e w' => ∃ U, e = .returned (.slice (some ⟨U, 0, none⟩) c.vars.toNat c.vars.toNat) ∧ w'.heap[U]? = some (.cells (bools (rchL c)).toArray 4 (0, 0)) ∧ w.heap.size ≤ U ∧ Below w.heap.size w w' := by
  have HBl : Hid (b < w.heap.size) := World.block_lt_of_cell? w _ h.h0
  obtain ⟨q1, q2, q3, q4, q5⟩ := id hv.lim
  obtain ⟨F, hF⟩ : ∃ F : Nat, 1 + c.inp + (c.next.length : Int) = F := ⟨(1 + c.inp + (c.next.length : Int)).toNat, by omega⟩
  obtain ⟨n, hnn⟩ : ∃ n, n = c.gates.length := ⟨_, rfl⟩
  obtain ⟨V, hV⟩ : ∃ V, V = F + n := ⟨_, rfl⟩
  have hF8 : F ≤ 8 := by omega
  have hn14 : n ≤ 120 := by omega
  have hV22 : V ≤ 130 := by omega
  have eV : c.vars = (V : Int) := by unfold Cir.vars; omega
  have eVn : c.vars.toNat = V := by rw [eV, Int.toNat_natCast]
  have eF : c.first.toNat = F := by rw [show c.first = (F : Int) from hF, Int.toNat_natCast]
  obtain ⟨roots, hro⟩ : ∃ roots, roots = c.next ++ c.outs := ⟨_, rfl⟩
  obtain ⟨L, hL⟩ : ∃ L, L = c.next.length + c.outs.length := ⟨_, rfl⟩
  have hL6 : L ≤ 6 := by omega
  have hrl : roots.length = L := by rw [hro, hL]; simp
  have HRI : Hid (ints c.next ++ ints c.outs = ints roots) := (by rw [hro, ints_append] : ints c.next ++ ints c.outs = ints roots)
  have HRU : Hid (rchL c = rchK F c.gates n (rch0 V roots)) := (by unfold rchL; rw [eF, eVn, hnn, hro] : rchL c = rchK F c.gates n (rch0 V roots))
  have HLT : Hid (∀ l, l ∈ roots → 0 ≤ l ∧ l / 2 < (V : Int)) := fun l hl => by
    rw [hro] at hl
    have : litP l c.vars := by
      rcases List.mem_append.1 hl with h | h
      · exact hv.next l h
      · exact hv.outs l h
    obtain ⟨x, y⟩ := this
    omega
  have HGT : Hid (∀ (i : Nat) (g : Gt), c.gates[i]? = some g → (0 ≤ g.a ∧ g.a / 2 < (V : Int)) ∧ 0 ≤ g.b ∧ g.b / 2 < (V : Int)) := fun i g hg => by
    have hlt := (List.getElem?_eq_some_iff.1 hg).1
    obtain ⟨⟨x, y⟩, z, t⟩ := gatesP_at hv.gates hg
    have : c.first = (F : Int) := hF
    omega
  have HB : Hid (∀ W, Below w.heap.size w W → CirAt W b c.inp (.slice sn c.next.length cn) (.slice sg n cg) (.slice so c.outs.length co) ∧ Sl W sn (ints c.next) ∧ Sl W sg (gcells c.gates) ∧ Sl W so (ints c.outs)) := fun W hb => by
    rw [hnn]
    exact ⟨⟨(hb.cell (p := ⟨b, 0, none⟩) HBl.out).trans h.h0, (hb.cell (p := ⟨b, 1, none⟩) HBl.out).trans h.h1, (hb.cell (p := ⟨b, 2, none⟩) HBl.out).trans h.h2, (hb.cell (p := ⟨b, 3, none⟩) HBl.out).trans h.h3⟩, hn.mono hb, hg.mono hb, ho.mono hb⟩
  rw [eVn]
  have HFF := Lib.hid (And.intro hF (And.intro hV (And.intro hL (And.intro hrl hnn))))
  clear h hn hg ho hv hF eV eVn eF hro hrl q4
  have hg14 : c.gates.length ≤ 1048576 := by omega
  clear hnn hV hL
  have hmk := fun w => mkBools w V (by omega)
  go_enter Try.func72, Try.ntmps72
  go_upto_region 2 with (go_at_call 38; ((with_reducible refine (vars_any _ _ _ _ _ _ _ _ _ _ (HB.out _ (Below.refl _ _)).1 (by omega) (by omega) (by omega)).mono ?_); rintro e w1 ⟨rfl, hq⟩; rw [show 1 + c.inp + (c.next.length : Int) + (n : Int) = (V : Int) by have h1 := HFF.out.1; have h2 := HFF.out.2.1; omega]; have H1 := Lib.hid (hq.below w.heap.size); clear hq))
  obtain ⟨U, hU⟩ : ∃ U, U = w1.heap.size := ⟨_, rfl⟩
  have hb1 := H1.out.alloc H1.out.size (.cells (bools (List.replicate V false)).toArray 4)
  have hk1 := blk_new w1 (.cells (bools (List.replicate V false)).toArray 4)
  have hsz : w.heap.size ≤ U := by rw [hU]; exact H1.out.size
  rw [← hU] at hk1
  rw [← hU]
  clear hU hmk
  revert hb1 hk1
  generalize w1.alloc (.cells (bools (List.replicate V false)).toArray 4) = W1
  intro hb1 hk1
  have H2 := Lib.hid (And.intro hb1 hk1)
  clear hb1 hk1
  go_upto_region 3 with (go_at_call 71; ((refine (roots_any _ _ _ _ _ _ _ _ _ _ (HB.out _ H2.out.1).1 (HB.out _ H2.out.1).2.1 (HB.out _ H2.out.1).2.2.2 (by omega) (by omega)).mono ?_); rintro e w2 ⟨s5, c5, rfl, ho5, hq⟩; rw [HRI.out, ← HFF.out.2.2.1] at ho5; rw [← HFF.out.2.2.1]; have H3 := Lib.hid (And.intro (own_base ho5 (show U + 1 ≤ W1.heap.size from blk_lt H2.out.2)) (And.intro (blk_below hq (blk_lt H2.out.2) H2.out.2) (H2.out.1.trans (hq.mono H2.out.1.size)))); clear ho5 hq))
  go_loopw [13] (fun s13 wr => ∃ k : Nat, k ≤ L ∧ s13 = .int .i64 k ∧ wr.ownsRow (U + 1) 3 1 (.slice s5 L c5) L (ints roots) ∧ wr.heap[U]? = some (.cells (bools (rch0 V (roots.take k))).toArray 4 (0, 0)) ∧ Below w.heap.size w wr) (fun s13 _ => L - (intOf s13).toNat)
  case atStart => exact ⟨0, Nat.zero_le _, rfl, H3.out.1, H3.out.2.1, H3.out.2.2⟩
  case round =>
    obtain ⟨k, hk, rfl, ho, hu, hb⟩ := hrel
    by_cases hlt : k < L
    · obtain ⟨l, hl⟩ := get_of_lt (l := roots) (k := k) (by rw [HFF.out.2.2.2.1]; exact hlt)
      obtain ⟨bb, off, rfl, hbw, y1⟩ := (own_sl ho).int (Below.refl _ _) hl
      obtain ⟨l0, l1⟩ := HLT.out l (List.mem_of_getElem? hl)
      obtain ⟨q, hq⟩ : ∃ q : Nat, l / 2 = q := ⟨(l / 2).toNat, by omega⟩
      have hqV : q < V := by omega
      have hss := rch0_snoc (V := V) hl
      obtain ⟨x, hx⟩ := get_of_lt (l := rch0 V (roots.take k)) (k := q) (by rw [rch0_length]; exact hqV)
      have y2 := bools_cell hu hx
      have y3 : wr.frozen? ⟨U, q, none⟩ = false := blk_free hu
      have HR := Lib.hid (And.intro ho (And.intro hu (And.intro hb (And.intro hss hq))))
      clear ho hu hb hss hl hx
      go_wp2_with fail
      have hne : (Value.slice (some ⟨bb, off, none⟩) L c5).ownBlock ≠ some U := by intro e; have := (own_blk HR.out.1 e).1; omega
      go_roundw
      case rel => exact ⟨k + 1, by omega, by go_num, own_set_ne HR.out.1 hne _, by rw [HR.out.2.2.2.1, setV_nat HR.out.2.2.2.2]; exact bools_blk_set HR.out.2.1 q true, HR.out.2.2.1.setCell hsz _⟩
      case measure => simp [intOf]; try omega
    · obtain rfl : L = k := by omega
      have hu9 : wr.heap[U]? = some (.cells (bools (rch0 V roots)).toArray 4 (0, 0)) := by rw [List.take_of_length_le (by rw [HFF.out.2.2.2.1]; exact Nat.le_refl _)] at hu; exact hu
      have H8 := Lib.hid (And.intro hu9 hb)
      clear ho hu hb hu9
      obtain ⟨c0, c1, c2, c3⟩ := (HB.out _ H8.out.2).1
      go_upto_region 8 with fail
      clear c0 c1 c2 c3
      go_loopw [6] (fun s6 wz => ∃ (m : Nat) (u : List Bool), m ≤ n ∧ s6 = .int .i64 ((m : Int) - 1) ∧ u.length = V ∧ rchK F c.gates m u = rchL c ∧ wz.heap[U]? = some (.cells (bools u).toArray 4 (0, 0)) ∧ Below w.heap.size w wz) (fun s6 _ => (intOf s6 + 1).toNat)
      case atStart => exact ⟨n, rch0 V roots, Nat.le_refl _, by first | rfl | go_num, rch0_length _ _, by rw [HRU.out], H8.out.1, H8.out.2⟩
      case round =>
        obtain ⟨m, u, hm, rfl, hul, huk, hu, hb⟩ := hrel
        by_cases hm0 : 0 < m
        · obtain ⟨i, hi⟩ : ∃ i : Nat, (m : Int) - 1 = i := ⟨m - 1, by omega⟩
          obtain rfl : m = i + 1 := by omega
          rw [hi]
          clear hi hm0
          have hin : i < n := by omega
          obtain ⟨g, hg⟩ := get_of_lt (l := c.gates) (k := i) (by rw [← HFF.out.2.2.2.2]; exact hin)
          obtain ⟨p, hp⟩ : ∃ p : Nat, p = F + i := ⟨_, rfl⟩
          obtain ⟨x, hx⟩ := get_of_lt (l := u) (k := p) (by have := HFF.out.2.1; omega)
          obtain ⟨⟨a0, a1⟩, b0, b1⟩ := HGT.out i g hg
          have hst := rchS_some (F := F) hg (by rw [← hp]; exact hx)
          obtain ⟨bb, off, rfl, hbw, z1, z2⟩ := (HB.out _ hb).2.2.1.gate (Below.refl _ _) hg
          have hxc := bools_cell hu hx
          have HX := Lib.hid (And.intro hul (And.intro huk (And.intro hst (And.intro hu (And.intro hb hg)))))
          have HZ : Hid (∀ W, Below w.heap.size w W → (∃ d0 : True, W.cell? ⟨b, 2, none⟩ = some (.slice (some ⟨bb, off, none⟩) n cg)) ∧ W.cell? ⟨bb, off + i * 2, none⟩ = some (.int .i64 g.a) ∧ W.cell? ⟨bb, off + i * 2 + 1, none⟩ = some (.int .i64 g.b)) := fun W hW => by
            obtain ⟨b', off', e', -, z1', z2'⟩ := (HB.out W hW).2.2.1.gate (Below.refl _ _) hg
            cases e'
            exact ⟨⟨trivial, (HB.out W hW).1.h2⟩, z1', z2'⟩
          have hFi : (F : Int) + (i : Int) = (p : Int) := by omega
          have hpV : p < V := by have := HFF.out.2.1; omega
          obtain ⟨qa, hqa⟩ : ∃ qa : Nat, g.a / 2 = qa := ⟨(g.a / 2).toNat, by omega⟩
          obtain ⟨qb, hqb⟩ : ∃ qb : Nat, g.b / 2 = qb := ⟨(g.b / 2).toNat, by omega⟩
          have hqaV : qa < V := by omega
          have hqbV : qb < V := by omega
          obtain ⟨xa, hxa⟩ := get_of_lt (l := u) (k := qa) (by omega)
          obtain ⟨xb, hxb⟩ := get_of_lt (l := setV u g.a) (k := qb) (by rw [setV_length]; omega)
          have ya := bools_cell hu hxa
          have ya2 : wr.frozen? ⟨U, qa, none⟩ = false := blk_free hu
          have HQ := Lib.hid (And.intro hqa (And.intro hqb hxb))
          clear hul huk hst hu hb hg hx z1 z2 hxa hxb hqb hp
          obtain ⟨⟨-, d2⟩, d3, d4⟩ := HZ.out _ HX.out.2.2.2.2.1
          cases x
          · clear ya ya2 d2 d3 d4 hqa
            go_wp2_with (go_at_call 33; ((with_reducible refine (firstGate_any _ _ _ _ _ _ _ _ (HB.out _ HX.out.2.2.2.2.1).1 (by omega) (by omega)).mono ?_); rintro e w2 ⟨rfl, n2, rfl⟩; rw [HFF.out.1]))
            go_roundw
            case rel => exact ⟨i, u, by omega, by first | rfl | go_num, HX.out.1, by rw [← HX.out.2.1]; show rchK F c.gates i u = rchK F c.gates i (rchS F c.gates i u); rw [HX.out.2.2.1]; rfl, blk_below (below_n (Below.refl _ _) _) (blk_lt HX.out.2.2.2.1) HX.out.2.2.2.1, below_n HX.out.2.2.2.2.1 _⟩
            case measure => simp [intOf]; try omega
          · go_upto_region 12 with (go_at_call 33; ((with_reducible refine (firstGate_any _ _ _ _ _ _ _ _ (HB.out _ HX.out.2.2.2.2.1).1 (by omega) (by omega)).mono ?_); rintro e w2 ⟨rfl, n2, rfl⟩; rw [HFF.out.1]))
            have hu2 : ((wr.drewN n2).setCell ⟨U, qa, none⟩ (.bool true)).heap[U]? = some (.cells (bools (setV u g.a)).toArray 4 (0, 0)) := by
              rw [setV_nat HQ.out.1]
              exact bools_blk_set (blk_below (below_n (Below.refl _ _) _) (blk_lt HX.out.2.2.2.1) HX.out.2.2.2.1) qa true
            have hb2 : Below w.heap.size w ((wr.drewN n2).setCell ⟨U, qa, none⟩ (.bool true)) := (below_n HX.out.2.2.2.2.1 n2).setCell hsz _
            clear ya ya2 d2 d3 d4 hqa hxc
            revert hu2 hb2
            generalize (wr.drewN n2).setCell ⟨U, qa, none⟩ (.bool true) = W5
            intro hu2 hb2
            have yb := bools_cell hu2 HQ.out.2.2
            have yb2 : W5.frozen? ⟨U, qb, none⟩ = false := blk_free hu2
            obtain ⟨⟨-, d2⟩, d3, d4⟩ := HZ.out _ hb2
            have hqb := HQ.out.2.1
            have H5 := Lib.hid (And.intro hu2 hb2)
            clear hu2 hb2
            go_wp2_with fail
            go_roundw
            case rel => exact ⟨i, setV (setV u g.a) g.b, by omega, by first | rfl | go_num, by rw [setV_length, setV_length]; exact HX.out.1, by rw [← HX.out.2.1]; show rchK F c.gates i _ = rchK F c.gates i (rchS F c.gates i u); rw [HX.out.2.2.1]; rfl, by rw [setV_nat (l := g.b) HQ.out.2.1]; exact bools_blk_set H5.out.1 qb true, H5.out.2.setCell hsz _⟩
            case measure => simp [intOf]; try omega
        · obtain rfl : m = 0 := by omega
          have e0 : rchL c = u := huk.symm
          have HR := Lib.hid (And.intro e0 (And.intro hu hb))
          clear hul huk hu hb e0
          go_wp2_with fail
          go_ret
          exact ⟨U, rfl, by rw [HR.out.1]; exact HR.out.2.1, hsz, HR.out.2.2⟩

/-! A map from gates to their literals, made by the call. -/

def Gt.agg (x : Gt) : Value := .agg #[.int .i64 x.a, .int .i64 x.b]
theorem und_gt : ∃ fs, Try.prog.underlying 24 = some (.struct fs) ∧ ∀ (e : Bool) (x : Gt) (w : World), (Instr.checkKey e 10000 24 x.agg).run Try.prog w = .ok () w := by
  refine ⟨_, Try.underlying24, fun e x w => ?_⟩
  suffices h : ∀ n : Nat, (Instr.checkKey e (n + 1 + 1) 24 x.agg).run Try.prog w = .ok () w from h 9998
  intro n
  unfold Gt.agg
  simp [Instr.checkKey, run_underlying Try.underlying24, run_underlying Try.underlying3, part, isAgg, go_sem]
theorem gt_ext {x y : Gt} (h1 : x.a = y.a) (h2 : x.b = y.b) : x = y := by cases x; cases y; simp_all
theorem equal_gt (x y : Gt) (w : World) : (Op.equal 24 x.agg y.agg).run Try.prog w = .ok (decide (x = y)) w := by
  have e : (decide (x = y)) = (decide (x.a = y.a) && decide (x.b = y.b)) := by
    rw [Bool.eq_iff_iff]
    simp only [Bool.and_eq_true, decide_eq_true_eq]
    exact ⟨fun h => by rw [h]; exact ⟨rfl, rfl⟩, fun h => gt_ext h.1 h.2⟩
  rw [e]
  unfold Op.equal Op.maxDepth Gt.agg
  go_simp
  by_cases h1 : x.a = y.a <;> by_cases h2 : x.b = y.b <;> simp [h1, h2]
def gtOf : Value → Gt
  | .agg cs => ⟨intOf (cs.getD 0 undef), intOf (cs.getD 1 undef)⟩
  | _ => ⟨0, 0⟩
theorem gtOf_agg (x : Gt) : gtOf x.agg = x := rfl

def entsG (F : Nat) : List Gt → Nat → List (Value × Value)
  | [], _ => []
  | x :: xs, i => (x.agg, .int .i64 (2 * ((F : Int) + (i : Int)))) :: entsG F xs (i + 1)
theorem entsG_app (F : Nat) (Ks : List Gt) (x : Gt) : ∀ i, entsG F (Ks ++ [x]) i = entsG F Ks i ++ [(x.agg, .int .i64 (2 * ((F : Int) + ((i + Ks.length : Nat) : Int))))] := by
  induction Ks with
  | nil => intro i; simp [entsG]
  | cons y ys ih =>
    intro i
    show (_ :: entsG F (ys ++ [x]) (i + 1)) = _
    rw [ih (i + 1)]
    simp [entsG]
    omega
theorem fk_entsG {F : Nat} {x : Gt} : ∀ {Ks : List Gt} {es : List MapEntry} {i : Nat} (j : Nat), es.map (fun e => (e.key, e.val)) = entsG F Ks i →
    fk (fun v => decide (x = gtOf v)) es j = (fndG Ks x i).map fun k => (j + (k - i), Value.int .i64 (2 * ((F : Int) + (k : Int))))
  | [], [], _, _, _ => rfl
  | [], _ :: _, _, _, h => by simp [entsG] at h
  | _ :: _, [], _, _, h => by simp [entsG] at h
  | y :: ys, e :: es, i, j, h => by
    simp only [List.map_cons, entsG, List.cons.injEq, Prod.mk.injEq] at h
    obtain ⟨⟨h1, h2⟩, h3⟩ := h
    have ih := fk_entsG (F := F) (x := x) (Ks := ys) (es := es) (i := i + 1) (j + 1) h3
    unfold fk fndG
    rw [h1, gtOf_agg]
    by_cases he : x = y
    · rw [if_pos (by simpa using he), if_pos he.symm, h2]; simp
    · rw [if_neg (by simpa using he), if_neg (fun e => he e.symm), ih]
      cases hf : fndG ys x (i + 1) with
      | none => rfl
      | some k =>
        have := (fndG_at hf).1
        simp only [Option.map_some, Option.some.injEq, Prod.mk.injEq, and_true]; omega
theorem entsG_key {F : Nat} {Ks : List Gt} : ∀ {i : Nat} {p : Value × Value}, p ∈ entsG F Ks i → ∃ y : Gt, p.1 = y.agg := by
  induction Ks with
  | nil => intro i p h; cases h
  | cons y ys ih =>
    intro i p h
    rcases List.mem_cons.1 h with rfl | h
    · exact ⟨y, rfl⟩
    · exact ih h

/-- Block b is a map that holds exactly the gates Ks, with the literals of variables from F on. -/
def MapG (F : Nat) (w : World) (b : Nat) (Ks : List Gt) : Prop :=
  ∃ es clock, w.heap[b]? = some (.map es clock) ∧ es.toList.map (fun e => (e.key, e.val)) = entsG F Ks 0
theorem MapG.key {F : Nat} {es : List MapEntry} {Ks : List Gt} (h : es.map (fun e => (e.key, e.val)) = entsG F Ks 0) : ∀ e ∈ es, ∃ y : Gt, e.key = y.agg := by
  intro e he
  have : (e.key, e.val) ∈ entsG F Ks 0 := by rw [← h]; exact List.mem_map.2 ⟨e, he, rfl⟩
  exact entsG_key this
theorem mapg_lookup {F : Nat} {w : World} {b : Nat} {Ks : List Gt} (h : MapG F w b Ks) (x : Gt) :
    (Instr.lookup 87 (.map (some b)) x.agg true).run Try.prog w = .ok (match fndG Ks x 0 with
      | some i => .tuple #[.int .i64 (2 * ((F : Int) + (i : Int))), .bool true]
      | none => .tuple #[.int .i64 0, .bool false]) w := by
  obtain ⟨es, clock, hb, hm⟩ := h
  obtain ⟨fs, hu, hc⟩ := und_gt
  have hk := MapG.key hm
  have hr := run_lookup_map (P := Try.prog) (w := w) (T := 87) (K := 24) (E := 3) Try.underlying87 hu hb (k := x.agg) (p := fun v => decide (x = gtOf v)) (z := .int .i64 0) (by kernel_rfl) (fun e => hc e x w)
    (fun e he => by obtain ⟨y, h1⟩ := hk e he; rw [h1]; exact equal_gt x y w) true
  rw [hr, fk_entsG (x := x) 0 hm]
  cases fndG Ks x 0 with
  | none => rfl
  | some k => rfl
theorem mapg_update {F : Nat} {w : World} {b : Nat} {Ks : List Gt} (h : MapG F w b Ks) (x : Gt) (hx : fndG Ks x 0 = none) :
    ∃ w', (Instr.mapUpdate 87 (.map (some b)) x.agg (.int .i64 (2 * ((F : Int) + (Ks.length : Int))))).run Try.prog w = .ok () w' ∧ MapG F w' b (Ks ++ [x]) ∧ w.grownBy w' (some b) ∧ w'.heap.size = w.heap.size := by
  obtain ⟨es, clock, hb, hm⟩ := h
  obtain ⟨fs, hu, hc⟩ := und_gt
  have hk := MapG.key hm
  have hr := run_update_new (P := Try.prog) (w := w) (T := 87) (K := 24) (E := 3) Try.underlying87 hu hb (k := x.agg) (v := .int .i64 (2 * ((F : Int) + (Ks.length : Int)))) (p := fun v => decide (x = gtOf v)) (fun e => hc e x w)
    (fun e he => by obtain ⟨y, h1⟩ := hk e he; rw [h1]; exact equal_gt x y w) (by rw [fk_entsG (x := x) 0 hm, hx]; rfl)
  have hlt := blk_lt hb
  refine ⟨_, hr, ⟨_, _, by simp [hlt]; exact ⟨rfl, rfl⟩, by simp [hm, entsG_app]⟩, ⟨rfl, rfl, rfl, by simp, fun k hk1 hk2 => ?_⟩, by simp⟩
  have : b ≠ k := fun e => hk2 (by rw [e])
  simp [this]
theorem MapG.new (F : Nat) (w : World) : MapG F (w.alloc (.map #[] 0)) w.heap.size [] := ⟨#[], 0, blk_new _ _, rfl⟩
theorem MapG.below {F : Nat} {w w' : World} {b : Nat} {Ks : List Gt} (h : MapG F w b Ks) (hb : Below w.heap.size w w') : MapG F w' b Ks := by
  obtain ⟨es, clock, h1, h2⟩ := h
  exact ⟨es, clock, blk_below hb (blk_lt h1) h1, h2⟩
theorem MapG.lt {F : Nat} {w : World} {b : Nat} {Ks : List Gt} (h : MapG F w b Ks) : b < w.heap.size := by
  obtain ⟨es, clock, h1, h2⟩ := h; exact blk_lt h1
theorem mapg_nocell {F : Nat} {w : World} {b : Nat} {Ks : List Gt} (h : MapG F w b Ks) {cs : Array Value} {t : TypeId} {fz : Nat × Nat} : w.heap[b]? ≠ some (.cells cs t fz) := by
  obtain ⟨es, clock, h1, _⟩ := h
  rw [h1]; intro e; cases e
theorem own_nomapg {F : Nat} {w : World} {base : Nat} {e : TypeId} {size : Nat} {v : Value} {n : Nat} {xs : List Value} (h : w.ownsRow base e size v n xs) {b : Nat} {Ks : List Gt} (hm : MapG F w b Ks) : v.ownBlock ≠ some b := by
  intro hb
  rcases h.2 with ⟨rfl, _⟩ | ⟨g, cap, cur, rfl, _, hg, _⟩
  · cases hb
  · cases hb; exact mapg_nocell hm hg

end Go.Proofs.Ytdcjiclonjillaa
