import Derived.Test.YtnifgamlmaembaaDoorTN
namespace Go.Proofs.YtnifgamlmaembaaDoor
set_option linter.unusedVariables false
set_option linter.unusedSimpArgs false
open Go.RowKit

/-! ParseCircuit of the papers. -/

def PsPost (ls : List Tx) (w : World) (e : Ending) (w' : World) : Prop :=
  ∃ (D : Cir) (n : Int) (vn vg vo : Value), PR ls D n ∧ e = .returned (.tuple #[.agg #[.int .i64 D.inp, vn, vg, vo], .int .i64 n]) ∧ CirOwn w' w.heap.size D vn vg vo ∧ Below w.heap.size w w'

/-- The phase of the papers: 0 ahead of the first line. -/
def phS (k : Nat) (part : Int) : Int := if k = 0 then 0 else max 1 part
theorem lineOk_iff {k : Nat} {part : Int} {l : Tx} (h1 : -1 ≤ part) (h3 : part ≤ 3) (hp : part = -1 ↔ k = 0) : lineOk k part l ↔ l.length ≤ 20 ∧ okS (phS k part) (fieldsT l) := by
  have e : (argsW l).length = (fieldsT l).length - 1 := by unfold argsW; rw [List.length_tail]
  have hl := fieldsT_pos l
  have hk := kindT_cases ((fieldsT l).headD [])
  unfold lineOk okS
  rw [e]
  show _ ∧ 0 ≤ kindT ((fieldsT l).headD []) ∧ numsB (fieldsT l).tail = true ∧ _ = wantK (kindT ((fieldsT l).headD [])) ∧ (kindT ((fieldsT l).headD []) = 0 ↔ _) ∧ _ ≤ kindT ((fieldsT l).headD []) ↔ _
  generalize kindT ((fieldsT l).headD []) = q at hk
  generalize wantK q = wt
  unfold phS
  by_cases h0 : k = 0
  · rw [if_pos h0]
    constructor
    · rintro ⟨a1, a2, a3, a4, a5, a6⟩; exact ⟨a1, a2, by omega, by omega, by omega, a3⟩
    · rintro ⟨a1, a2, a3, a4, a5, a6⟩; exact ⟨a1, a2, a6, by omega, by omega, by omega⟩
  · rw [if_neg h0]
    constructor
    · rintro ⟨a1, a2, a3, a4, a5, a6⟩; exact ⟨a1, a2, by omega, by omega, by omega, a3⟩
    · rintro ⟨a1, a2, a3, a4, a5, a6⟩; exact ⟨a1, a2, a6, by omega, by omega, by omega⟩

/-- The blocks of the call: the result, the circuit so far. -/
structure PsI (w : World) (c : Cir) (vn vg vo : Value) (W : World) : Prop where
  res : W.heap[w.heap.size]? = some (.cells #[.int .i64 0, .slice none 0 0, .slice none 0 0, .slice none 0 0] 31 (0, 0))
  cur : W.heap[w.heap.size + 1]? = some (.cells #[.int .i64 c.inp, vn, vg, vo] 31 (0, 0))
  own : CirOwn W (w.heap.size + 2) c vn vg vo
  bel : Below w.heap.size w W
  sz : w.heap.size + 2 ≤ W.heap.size
theorem PsI.below {w W W' : World} {c : Cir} {vn vg vo : Value} (h : PsI w c vn vg vo W) (hb : Below W.heap.size W W') : PsI w c vn vg vo W' :=
  ⟨blk_below hb (blk_lt h.res) h.res, blk_below hb (blk_lt h.cur) h.cur, own_cbelow h.own hb, h.bel.trans (hb.mono h.bel.size), Nat.le_trans h.sz hb.size⟩

/-- What one line leaves. -/
def P8 (w : World) (ph kq : Int) (fs : List Tx) (D : Cir) (v7 v8 v9 : Value) (W : World) : Prop :=
  W.heap[w.heap.size]? = some (.cells #[.int .i64 0, .slice none 0 0, .slice none 0 0, .slice none 0 0] 31 (0, 0)) ∧ Below w.heap.size w W ∧ w.heap.size + 2 ≤ W.heap.size ∧
  ((okS ph fs ∧ v8 = .int .i64 (max 1 kq) ∧ v9 = .bool true ∧ ∃ (X : Nat) (vn vg vo a0 a1 a2 a3 : Value), v7 = .pointer (some ⟨X, 0, none⟩) ∧ w.heap.size + 2 ≤ X ∧ W.heap[X]? = some (.cells #[.int .i64 D.inp, vn, vg, vo] 31 (0, 0)) ∧
      W.heap[w.heap.size + 1]? = some (.cells #[a0, a1, a2, a3] 31 (0, 0)) ∧ CirOwn W (w.heap.size + 2) D vn vg vo) ∨
   (¬ okS ph fs ∧ v9 = .bool false))
theorem set4_ne {V : World} {X r : Nat} {o : Option Obj} {a b c d : Value} (h : V.heap[r]? = o) (hne : X ≠ r) : ((((V.setCell ⟨X, 0, none⟩ a).setCell ⟨X, 1, none⟩ b).setCell ⟨X, 2, none⟩ c).setCell ⟨X, 3, none⟩ d).heap[r]? = o :=
  blk_set_ne hne (blk_set_ne hne (blk_set_ne hne (blk_set_ne hne h)))
theorem P8.no {w V : World} {ph kq : Int} {fs : List Tx} {D : Cir} {X : Nat} {v7 v8 a b c d : Value} (hr : V.heap[w.heap.size]? = some (.cells #[.int .i64 0, .slice none 0 0, .slice none 0 0, .slice none 0 0] 31 (0, 0))) (hb : Below w.heap.size w V) (hs : w.heap.size + 2 ≤ V.heap.size) (hx : w.heap.size + 2 ≤ X) (hno : ¬ okS ph fs) :
    P8 w ph kq fs D v7 v8 (.bool false) ((((V.setCell ⟨X, 0, none⟩ a).setCell ⟨X, 1, none⟩ b).setCell ⟨X, 2, none⟩ c).setCell ⟨X, 3, none⟩ d) :=
  ⟨set4_ne hr (by omega), li_bel hb (by omega), by simpa using hs, .inr ⟨hno, rfl⟩⟩
theorem P8.yes {w V : World} {ph kq : Int} {fs : List Tx} {D : Cir} {X : Nat} {vn vg vo a0 a1 a2 a3 : Value} (hr : V.heap[w.heap.size]? = some (.cells #[.int .i64 0, .slice none 0 0, .slice none 0 0, .slice none 0 0] 31 (0, 0))) (hc : V.heap[w.heap.size + 1]? = some (.cells #[a0, a1, a2, a3] 31 (0, 0))) (hX : V.heap[X]? = some (.cells #[.int .i64 0, .slice none 0 0, .slice none 0 0, .slice none 0 0] 31 (0, 0)))
    (hb : Below w.heap.size w V) (hs : w.heap.size + 2 ≤ V.heap.size) (hx : w.heap.size + 2 ≤ X) (hown : CirOwn V (w.heap.size + 2) D vn vg vo) (hok : okS ph fs) :
    P8 w ph kq fs D (.pointer (some ⟨X, 0, none⟩)) (.int .i64 (max 1 kq)) (.bool true) ((((V.setCell ⟨X, 0, none⟩ (.int .i64 D.inp)).setCell ⟨X, 1, none⟩ vn).setCell ⟨X, 2, none⟩ vg).setCell ⟨X, 3, none⟩ vo) :=
  ⟨set4_ne hr (by omega), li_bel hb (by omega), by simpa using hs, .inl ⟨hok, rfl, rfl, X, vn, vg, vo, a0, a1, a2, a3, rfl, hx,
    by simpa using blk_set (o := 3) (v := vo) (blk_set (o := 2) (v := vg) (blk_set (o := 1) (v := vn) (blk_set (o := 0) (v := .int .i64 D.inp) hX))), set4_ne hc (by omega), li_own hown hX⟩⟩

theorem zero_ownS (W : World) (b : Nat) : CirOwn W b c0 (.slice none 0 0) (.slice none 0 0) (.slice none 0 0) :=
  ⟨World.ownsRow_nil _ _ _ _, World.ownsRow_nil _ _ _ _, World.ownsRow_nil _ _ _ _, (fun k hk => by cases hk), by simp [c0], by simp [c0], by simp [c0]⟩

theorem ps_ret {ls : List Tx} {w W : World} {D : Cir} {n : Int} {vn vg vo : Value} {a : Act} (h0 : W.heap[w.heap.size]? = some (.cells #[.int .i64 0, .slice none 0 0, .slice none 0 0, .slice none 0 0] 31 (0, 0))) (hbl : Below w.heap.size w W) (hown : CirOwn W (w.heap.size + 2) D vn vg vo) (hpr : PR ls D n)
    (ha : a.tmps.getD 2 undef = .pointer (some ⟨w.heap.size, 0, none⟩)) (h3 : a.tmps.getD 3 undef = .int .i64 n) (hd : a.defers = []) :
    bodyPost Tryd.prog Tryd.f16 (PsPost ls w) .ret a ((((W.setCell ⟨w.heap.size, 0, none⟩ (.int .i64 D.inp)).setCell ⟨w.heap.size, 1, none⟩ vn).setCell ⟨w.heap.size, 2, none⟩ vg).setCell ⟨w.heap.size, 3, none⟩ vo) := by
  have hZ : ((((W.setCell ⟨w.heap.size, 0, none⟩ (.int .i64 D.inp)).setCell ⟨w.heap.size, 1, none⟩ vn).setCell ⟨w.heap.size, 2, none⟩ vg).setCell ⟨w.heap.size, 3, none⟩ vo).heap[w.heap.size]? = some (.cells #[.int .i64 D.inp, vn, vg, vo] 31 (0, 0)) := by
    simpa using blk_set (o := 3) (v := vo) (blk_set (o := 2) (v := vg) (blk_set (o := 1) (v := vn) (blk_set (o := 0) (v := .int .i64 D.inp) h0)))
  have hR := hown.sets4 (r := w.heap.size) (by omega) (base := w.heap.size) (by omega) (a := .int .i64 D.inp) (b' := vn) (c' := vg) (d := vo)
  have hB := li_bel (a := .int .i64 D.inp) (b := vn) (c := vg) (d := vo) hbl (Nat.le_refl _)
  clear h0 hbl hown
  revert hZ hR hB
  generalize ((((W.setCell ⟨w.heap.size, 0, none⟩ (.int .i64 D.inp)).setCell ⟨w.heap.size, 1, none⟩ vn).setCell ⟨w.heap.size, 2, none⟩ vg).setCell ⟨w.heap.size, 3, none⟩ vo) = WZ
  intro hZ hR hB
  have cr := (blk_all hZ).1
  have ha' : a.tmps[2]?.getD undef = .pointer (some ⟨w.heap.size, 0, none⟩) := by simpa using ha
  have h3' : a.tmps[3]?.getD undef = .int .i64 n := by simpa using h3
  exact bodyPost_ret (v := .tuple #[.agg #[.int .i64 D.inp, vn, vg, vo], .int .i64 n]) (by simp [results, Tryd.results16, go_sem, cr, ha', h3']) hd ⟨D, n, vn, vg, vo, hpr, rfl, hR, hB⟩

theorem ps_ret0 {ls : List Tx} {w W : World} {n : Int} {a : Act} (h0 : W.heap[w.heap.size]? = some (.cells #[.int .i64 0, .slice none 0 0, .slice none 0 0, .slice none 0 0] 31 (0, 0))) (hbl : Below w.heap.size w W) (hpr : PR ls c0 n)
    (ha : a.tmps.getD 2 undef = .pointer (some ⟨w.heap.size, 0, none⟩)) (h3 : a.tmps.getD 3 undef = .int .i64 n) (hd : a.defers = []) :
    bodyPost Tryd.prog Tryd.f16 (PsPost ls w) .ret a ((((W.setCell ⟨w.heap.size, 0, none⟩ (.int .i64 0)).setCell ⟨w.heap.size, 1, none⟩ (.slice none 0 0)).setCell ⟨w.heap.size, 2, none⟩ (.slice none 0 0)).setCell ⟨w.heap.size, 3, none⟩ (.slice none 0 0)) :=
  ps_ret (D := c0) h0 hbl (zero_ownS W _) hpr ha h3 hd

theorem fieldsG_wlenS : ∀ (s cur : Tx), ∀ x ∈ fieldsG cur s, x.length ≤ cur.length + s.length
  | [], cur, x, h => by simp [fieldsG] at h; subst h; simp
  | c :: r, cur, x, h => by
    unfold fieldsG at h
    split at h
    · rcases List.mem_cons.1 h with rfl | h
      · simp
      · have := fieldsG_wlenS r [] x h; simp at this ⊢; omega
    · have := fieldsG_wlenS r (cur ++ [c]) x h; simp at this ⊢; omega

set_option maxRecDepth 100000 in
set_option maxHeartbeats 6400000 in
theorem ParseCircuit_s (s0 : Option Addr) (cap0 : Nat) (ls : List Tx) (w : World) (hs : Sl w s0 (strs ls)) (hl : ls.length ≤ 1048576) (hx : ∀ x ∈ ls, x.length ≤ 1048576) :
    Calls Tryd.prog 16 #[.slice s0 ls.length cap0] w (PsPost ls w) := by
  have HS := Lib.hid (And.intro hs hx)
  clear hs hx
  have h0 : PsI w c0 (.slice none 0 0) (.slice none 0 0) (.slice none 0 0) ((w.alloc (.cells #[.int .i64 0, .slice none 0 0, .slice none 0 0, .slice none 0 0] 31)).alloc (.cells #[.int .i64 0, .slice none 0 0, .slice none 0 0, .slice none 0 0] 31)) :=
    ⟨blk_below (below_al _ _) (blk_lt (blk_new w _)) (blk_new w _), by simpa [c0] using blk_new (w.alloc (.cells #[.int .i64 0, .slice none 0 0, .slice none 0 0, .slice none 0 0] 31)) (.cells #[.int .i64 0, .slice none 0 0, .slice none 0 0, .slice none 0 0] 31), zero_ownS _ _, ((Below.refl _ _).alloc (Nat.le_refl _) _).alloc (by simp) _, by simp⟩
  have H0 := Lib.hid h0
  clear h0
  go_enter Tryd.func16, Tryd.ntmps16
  go_upto_region 4 with fail
  revert H0
  generalize ((w.alloc (.cells #[.int .i64 0, .slice none 0 0, .slice none 0 0, .slice none 0 0] 31)).alloc (.cells #[.int .i64 0, .slice none 0 0, .slice none 0 0, .slice none 0 0] 31)) = W0
  intro H0
  go_loopw [6, 5] (fun v6 v5 wr => ∃ (k : Nat) (part : Int) (c : Cir) (sn sg so : Option Addr) (cn cg co : Nat), k ≤ ls.length ∧ v6 = .int .i64 k ∧ v5 = .int .i64 (phS k part) ∧ Pr ls k part c ∧ PsI w c (.slice sn c.next.length cn) (.slice sg c.gates.length cg) (.slice so c.outs.length co) wr) (fun v6 _ _ => ls.length - (intOf v6).toNat)
  case atStart => exact ⟨0, -1, c0, none, none, none, 0, 0, 0, Nat.zero_le _, rfl, rfl, Pr.nil, H0.out⟩
  case round =>
    clear H0
    obtain ⟨k, part, c, sn, sg, so, cn, cg, co, hk, rfl, rfl, hpr, hp⟩ := hrel
    obtain ⟨p1, p2, p3, p4, p5, p6⟩ := hpr.len
    have HPR := Lib.hid hpr
    have HP := Lib.hid hp
    clear hpr hp
    obtain ⟨ph, hph⟩ : ∃ ph, ph = phS k part := ⟨_, rfl⟩
    rw [← hph]
    have hp0 : 0 ≤ ph := by rw [hph]; unfold phS; split <;> omega
    have hp3 : ph ≤ 3 := by rw [hph]; unfold phS; split <;> omega
    have HPH := Lib.hid hph
    clear hph
    by_cases hlt : k < ls.length
    · obtain ⟨l, hlk⟩ := get_of_lt hlt
      obtain ⟨sb, sf, rfl, hsb, zs⟩ := HS.out.1.str HP.out.bel hlk
      have hl1 := HS.out.2 l (List.mem_of_getElem? hlk)
      have hiff := lineOk_iff (l := l) p4 p5 p6
      rw [← HPH.out] at hiff
      have HLK := Lib.hid (And.intro hlk hiff)
      have hcl : c.next.length + c.gates.length + c.outs.length ≤ 1048575 := by omega
      have HE : Hid (∀ W, Below w.heap.size w W → W.cell? ⟨sb, sf + k, none⟩ = some (.string ⟨l.toArray⟩)) := fun W hW => by
        obtain ⟨b2, f2, e2, h2, z2⟩ := HS.out.1.str hW hlk
        cases e2
        exact z2
      clear hlk hiff hsb zs
      have hPd := HP.out.below (Below.refl wr.heap.size wr).drew
      have HPd := Lib.hid hPd
      clear hPd
      go_upto_region 6 with fail
      go_cut [7, 8, 9] from 17 to 28 (fun v7 v8 v9 wx => P8 w ph (kindL l) (fieldsT l) (addP (kindL l) (argsL l) c) v7 v8 v9 wx)
      case first =>
        refine wp_region_T (fun w' => (∀ o, w'.cell? ⟨w.heap.size + 1, o, none⟩ = #[Value.int .i64 c.inp, .slice sn c.next.length cn, .slice sg c.gates.length cg, .slice so c.outs.length co][o]?) ∧ w'.cell? ⟨sb, sf + k, none⟩ = some (.string ⟨l.toArray⟩)) (.q 0 (.q 1 (.q 2 (.q 3 (.q 4 (.q 6 (.two 5 (.two 7 (.q 8 (.q 9 (.q 10 (.q 11 (.e 12 (.e 13 (.q 14 (.q 15 .nil)))))))) 12 (.e 7 (.q 8 (.q 9 (.q 10 (.q 11 (.e 13 (.q 14 (.q 15 .nil))))))))) 12 (.e 5 (.e 7 (.q 8 (.q 9 (.q 10 (.q 11 (.e 13 (.q 14 (.q 15 .nil)))))))))))))))) (by kernel_rfl) (by kernel_rfl) (by kernel_rfl) ⟨(blk_all HPd.out.cur).1, HE.out _ HPd.out.bel⟩ ?_
        revert HPd
        generalize wr.drew = wd
        intro HPd
        repeat (first | (refine ordt_s (o := ?_) ?_ ?_ ?_; rotate_left 1; (focus ((simp only [List.getElem?_toArray, List.getElem?_cons_succ, List.getElem?_cons_zero]) <;> rfl)); (focus rfl); simp only [Act.put, List.setIfInBounds_toArray, List.set_cons_zero, List.set_cons_succ]) | (refine ordt_q (o := ?_) (v := ?_) ?_ ?_ ?_ ?_; rotate_left 2; (focus ((simp only [List.getElem?_toArray, List.getElem?_cons_succ, List.getElem?_cons_zero]) <;> rfl)); (focus rfl); (focus (intro w' hS; (try dsimp only at hS); go_split_ands; go_simp; (try (with_reducible rfl)))); simp only [Act.put, List.setIfInBounds_toArray, List.set_cons_zero, List.set_cons_succ]))
        refine ordt_two ?_ ?_
        · (refine op_e (o := ?_) ?_ ?_ (fun K hK => ?_); rotate_left 1; (focus ((simp only [List.getElem?_toArray, List.getElem?_cons_succ, List.getElem?_cons_zero]) <;> rfl)); (focus rfl); go_simp)
          refine (l13Fields_any l hl1 _).mono ?_
          rintro e wf ⟨s1, cap1, rfl, hfo, hfb⟩
          have HPf := Lib.hid (HPd.out.below hfb)
          have HFO := Lib.hid (own_sl hfo)
          skip
          refine hK.out _ _ ⟨(blk_all HPf.out.cur).1, HE.out _ HPf.out.bel⟩ ?_
          clear hK K hfb hfo
          (try simp only [Act.put, List.setIfInBounds_toArray, List.set_cons_zero, List.set_cons_succ])
          repeat (first | (refine ordt_s (o := ?_) ?_ ?_ ?_; rotate_left 1; (focus ((simp only [List.getElem?_toArray, List.getElem?_cons_succ, List.getElem?_cons_zero]) <;> rfl)); (focus rfl); simp only [Act.put, List.setIfInBounds_toArray, List.set_cons_zero, List.set_cons_succ]) | (refine ordt_q (o := ?_) (v := ?_) ?_ ?_ ?_ ?_; rotate_left 2; (focus ((simp only [List.getElem?_toArray, List.getElem?_cons_succ, List.getElem?_cons_zero]) <;> rfl)); (focus rfl); (focus (intro w' hS; (try dsimp only at hS); go_split_ands; go_simp; (try (with_reducible rfl)))); simp only [Act.put, List.setIfInBounds_toArray, List.set_cons_zero, List.set_cons_succ]))
          refine ordt_two ?_ ?_
          · (refine op_e (o := ?_) ?_ ?_ (fun K hK => ?_); rotate_left 1; (focus ((simp only [List.getElem?_toArray, List.getElem?_cons_succ, List.getElem?_cons_zero]) <;> rfl)); (focus rfl); go_simp)
            refine (l13Line_any c sn sg so cn cg co (w.heap.size + 2) s1 cap1 (fieldsT l) ph wf HPf.out.sz HPf.out.own HFO.out (fieldsT_pos l) (by have h := fieldsG_len l []; have e : (fieldsT l).length = (fieldsG [] l).length := rfl; omega) (fun x h => by have h2 := fieldsG_wlenS l [] x h; simp at h2; omega) hp0 hp3 (by omega)).mono ?_
            rintro e wl (⟨hok, D, vn', vg', vo', hD, rfl, hown', hb, hkp⟩ | ⟨hno, rfl, hb⟩)
            · replace hD : D = addP (kindL l) (argsL l) c := hD
              subst hD
              rw [show kindT ((fieldsT l).headD []) = kindL l from rfl]
              obtain ⟨tn, kn, rfl⟩ := own_shape hown'.n
              obtain ⟨tg, kg, rfl⟩ := own_shape hown'.g
              obtain ⟨to_, ko, rfl⟩ := own_shape hown'.o
              have hbl : Below w.heap.size w wl := HPf.out.bel.trans (hb.mono (by omega))
              have hrs := blk_below hb (by omega) HPf.out.res
              have hcr := blk_below hb (by omega) HPf.out.cur
              have hsz : w.heap.size + 2 ≤ wl.heap.size := Nat.le_trans HPf.out.sz hb.size
              refine hK.out _ _ ⟨(blk_all hcr).1, HE.out _ hbl⟩ ?_
              clear hK K
              have HL := Lib.hid (And.intro hrs (And.intro hcr (And.intro hbl (And.intro hsz (And.intro hown' (And.intro hok trivial))))))
              clear hrs hcr hbl hsz hown' hok hb hkp
              (try simp only [Act.put, List.setIfInBounds_toArray, List.set_cons_zero, List.set_cons_succ])
              repeat (first | (refine ordt_s (o := ?_) ?_ ?_ ?_; rotate_left 1; (focus ((simp only [List.getElem?_toArray, List.getElem?_cons_succ, List.getElem?_cons_zero]) <;> rfl)); (focus rfl); simp only [Act.put, List.setIfInBounds_toArray, List.set_cons_zero, List.set_cons_succ]) | (refine ordt_q (o := ?_) (v := ?_) ?_ ?_ ?_ ?_; rotate_left 2; (focus ((simp only [List.getElem?_toArray, List.getElem?_cons_succ, List.getElem?_cons_zero]) <;> rfl)); (focus rfl); (focus (intro w' hS; (try dsimp only at hS); go_split_ands; go_simp; (try (with_reducible rfl)))); simp only [Act.put, List.setIfInBounds_toArray, List.set_cons_zero, List.set_cons_succ]))
              refine ordt_e ?_
              (refine op_e (o := ?_) ?_ ?_ (fun K hK => ?_); rotate_left 1; (focus ((simp only [List.getElem?_toArray, List.getElem?_cons_succ, List.getElem?_cons_zero]) <;> rfl)); (focus rfl); go_simp)
              obtain ⟨X, hX⟩ : ∃ X, X = wl.heap.size := ⟨_, rfl⟩
              have hx := blk_new wl (.cells #[.int .i64 0, .slice none 0 0, .slice none 0 0, .slice none 0 0] 31)
              have hal := below_al wl (.cells #[.int .i64 0, .slice none 0 0, .slice none 0 0, .slice none 0 0] 31)
              have hxs : w.heap.size + 2 ≤ X := by rw [hX]; exact HL.out.2.2.2.1
              have hz := And.intro (blk_below hal (blk_lt HL.out.1) HL.out.1) (And.intro (blk_below hal (blk_lt HL.out.2.1) HL.out.2.1) (And.intro (HL.out.2.2.1.trans (hal.mono HL.out.2.2.1.size)) (And.intro (Nat.le_trans HL.out.2.2.2.1 hal.size) (And.intro (own_cbelow HL.out.2.2.2.2.1 hal) HL.out.2.2.2.2.2))))
              rw [← hX] at hx
              rw [← hX]
              clear hX hal HL
              revert hx hz
              generalize wl.alloc (.cells #[.int .i64 0, .slice none 0 0, .slice none 0 0, .slice none 0 0] 31) = wm
              intro hx hz
              have HL := Lib.hid hz
              have HX8 := Lib.hid (And.intro hx hxs)
              refine hK.out _ _ ⟨(blk_all HL.out.2.1).1, HE.out _ HL.out.2.2.1⟩ ?_
              clear hK K hx hz
              (try simp only [Act.put, List.setIfInBounds_toArray, List.set_cons_zero, List.set_cons_succ])
              repeat (first | (refine ordt_s (o := ?_) ?_ ?_ ?_; rotate_left 1; (focus ((simp only [List.getElem?_toArray, List.getElem?_cons_succ, List.getElem?_cons_zero]) <;> rfl)); (focus rfl); simp only [Act.put, List.setIfInBounds_toArray, List.set_cons_zero, List.set_cons_succ]) | (refine ordt_q (o := ?_) (v := ?_) ?_ ?_ ?_ ?_; rotate_left 2; (focus ((simp only [List.getElem?_toArray, List.getElem?_cons_succ, List.getElem?_cons_zero]) <;> rfl)); (focus rfl); (focus (intro w' hS; (try dsimp only at hS); go_split_ands; go_simp; (try (with_reducible rfl)))); simp only [Act.put, List.setIfInBounds_toArray, List.set_cons_zero, List.set_cons_succ]))
              refine ordt_e ?_
              obtain ⟨cX, fX⟩ := blk_all HX8.out.1
              (refine op_e (o := ?_) ?_ ?_ (fun K hK => ?_); rotate_left 1; (focus ((simp only [List.getElem?_toArray, List.getElem?_cons_succ, List.getElem?_cons_zero]) <;> rfl)); (focus rfl); go_simp)
              refine hK.out _ _ ⟨(blk_all (set4_ne (X := X) (r := w.heap.size + 1) HL.out.2.1 (by have := HX8.out.2; omega))).1, HE.out _ (li_bel (r := X) HL.out.2.2.1 (by have := HX8.out.2; omega))⟩ ?_
              clear hK K cX fX
              (try simp only [Act.put, List.setIfInBounds_toArray, List.set_cons_zero, List.set_cons_succ])
              repeat (first | (refine ordt_s (o := ?_) ?_ ?_ ?_; rotate_left 1; (focus ((simp only [List.getElem?_toArray, List.getElem?_cons_succ, List.getElem?_cons_zero]) <;> rfl)); (focus rfl); simp only [Act.put, List.setIfInBounds_toArray, List.set_cons_zero, List.set_cons_succ]) | (refine ordt_q (o := ?_) (v := ?_) ?_ ?_ ?_ ?_; rotate_left 2; (focus ((simp only [List.getElem?_toArray, List.getElem?_cons_succ, List.getElem?_cons_zero]) <;> rfl)); (focus rfl); (focus (intro w' hS; (try dsimp only at hS); go_split_ands; go_simp; (try (with_reducible rfl)))); simp only [Act.put, List.setIfInBounds_toArray, List.set_cons_zero, List.set_cons_succ]))
              refine ordt_nil ?_
              go_wp2_with fail
              go_meet
              exact P8.yes HL.out.1 HL.out.2.1 HX8.out.1 HL.out.2.2.1 HL.out.2.2.2.1 HX8.out.2 HL.out.2.2.2.2.1 HL.out.2.2.2.2.2.1
            · have hpl := HPf.out.below hb
              refine hK.out _ _ ⟨(blk_all hpl.cur).1, HE.out _ hpl.bel⟩ ?_
              clear hK K
              have HL := Lib.hid (And.intro hpl hno)
              clear hpl hno hb
              (try simp only [Act.put, List.setIfInBounds_toArray, List.set_cons_zero, List.set_cons_succ])
              repeat (first | (refine ordt_s (o := ?_) ?_ ?_ ?_; rotate_left 1; (focus ((simp only [List.getElem?_toArray, List.getElem?_cons_succ, List.getElem?_cons_zero]) <;> rfl)); (focus rfl); simp only [Act.put, List.setIfInBounds_toArray, List.set_cons_zero, List.set_cons_succ]) | (refine ordt_q (o := ?_) (v := ?_) ?_ ?_ ?_ ?_; rotate_left 2; (focus ((simp only [List.getElem?_toArray, List.getElem?_cons_succ, List.getElem?_cons_zero]) <;> rfl)); (focus rfl); (focus (intro w' hS; (try dsimp only at hS); go_split_ands; go_simp; (try (with_reducible rfl)))); simp only [Act.put, List.setIfInBounds_toArray, List.set_cons_zero, List.set_cons_succ]))
              refine ordt_e ?_
              (refine op_e (o := ?_) ?_ ?_ (fun K hK => ?_); rotate_left 1; (focus ((simp only [List.getElem?_toArray, List.getElem?_cons_succ, List.getElem?_cons_zero]) <;> rfl)); (focus rfl); go_simp)
              obtain ⟨X, hX⟩ : ∃ X, X = wl.heap.size := ⟨_, rfl⟩
              have hx := blk_new wl (.cells #[.int .i64 0, .slice none 0 0, .slice none 0 0, .slice none 0 0] 31)
              have hxs : w.heap.size + 2 ≤ X := by rw [hX]; exact HL.out.1.sz
              have hz := And.intro (HL.out.1.below (below_al wl (.cells #[.int .i64 0, .slice none 0 0, .slice none 0 0, .slice none 0 0] 31))) HL.out.2
              rw [← hX] at hx
              rw [← hX]
              clear hX HL
              revert hx hz
              generalize wl.alloc (.cells #[.int .i64 0, .slice none 0 0, .slice none 0 0, .slice none 0 0] 31) = wm
              intro hx hz
              have HL := Lib.hid hz
              have HX8 := Lib.hid (And.intro hx hxs)
              refine hK.out _ _ ⟨(blk_all HL.out.1.cur).1, HE.out _ HL.out.1.bel⟩ ?_
              clear hK K hx hz
              (try simp only [Act.put, List.setIfInBounds_toArray, List.set_cons_zero, List.set_cons_succ])
              repeat (first | (refine ordt_s (o := ?_) ?_ ?_ ?_; rotate_left 1; (focus ((simp only [List.getElem?_toArray, List.getElem?_cons_succ, List.getElem?_cons_zero]) <;> rfl)); (focus rfl); simp only [Act.put, List.setIfInBounds_toArray, List.set_cons_zero, List.set_cons_succ]) | (refine ordt_q (o := ?_) (v := ?_) ?_ ?_ ?_ ?_; rotate_left 2; (focus ((simp only [List.getElem?_toArray, List.getElem?_cons_succ, List.getElem?_cons_zero]) <;> rfl)); (focus rfl); (focus (intro w' hS; (try dsimp only at hS); go_split_ands; go_simp; (try (with_reducible rfl)))); simp only [Act.put, List.setIfInBounds_toArray, List.set_cons_zero, List.set_cons_succ]))
              refine ordt_e ?_
              obtain ⟨cX, fX⟩ := blk_all HX8.out.1
              (refine op_e (o := ?_) ?_ ?_ (fun K hK => ?_); rotate_left 1; (focus ((simp only [List.getElem?_toArray, List.getElem?_cons_succ, List.getElem?_cons_zero]) <;> rfl)); (focus rfl); go_simp)
              refine hK.out _ _ ⟨(blk_all (set4_ne (X := X) (r := w.heap.size + 1) HL.out.1.cur (by have := HX8.out.2; omega))).1, HE.out _ (li_bel (r := X) HL.out.1.bel (by have := HX8.out.2; omega))⟩ ?_
              clear hK K cX fX
              (try simp only [Act.put, List.setIfInBounds_toArray, List.set_cons_zero, List.set_cons_succ])
              repeat (first | (refine ordt_s (o := ?_) ?_ ?_ ?_; rotate_left 1; (focus ((simp only [List.getElem?_toArray, List.getElem?_cons_succ, List.getElem?_cons_zero]) <;> rfl)); (focus rfl); simp only [Act.put, List.setIfInBounds_toArray, List.set_cons_zero, List.set_cons_succ]) | (refine ordt_q (o := ?_) (v := ?_) ?_ ?_ ?_ ?_; rotate_left 2; (focus ((simp only [List.getElem?_toArray, List.getElem?_cons_succ, List.getElem?_cons_zero]) <;> rfl)); (focus rfl); (focus (intro w' hS; (try dsimp only at hS); go_split_ands; go_simp; (try (with_reducible rfl)))); simp only [Act.put, List.setIfInBounds_toArray, List.set_cons_zero, List.set_cons_succ]))
              refine ordt_nil ?_
              go_wp2_with fail
              go_meet
              exact P8.no HL.out.1.res HL.out.1.bel HL.out.1.sz HX8.out.2 HL.out.2
          · (refine op_e (o := ?_) ?_ ?_ (fun K hK => ?_); rotate_left 1; (focus ((simp only [List.getElem?_toArray, List.getElem?_cons_succ, List.getElem?_cons_zero]) <;> rfl)); (focus rfl); go_simp)
            obtain ⟨X, hX⟩ : ∃ X, X = wf.heap.size := ⟨_, rfl⟩
            have hx := blk_new wf (.cells #[.int .i64 0, .slice none 0 0, .slice none 0 0, .slice none 0 0] 31)
            have hp := HPf.out.below (below_al wf (.cells #[.int .i64 0, .slice none 0 0, .slice none 0 0, .slice none 0 0] 31))
            have hxs : w.heap.size + 2 ≤ X := by rw [hX]; exact HPf.out.sz
            have hfo := HFO.out.mono (below_al wf (.cells #[.int .i64 0, .slice none 0 0, .slice none 0 0, .slice none 0 0] 31))
            rw [← hX] at hx
            rw [← hX]
            clear hX
            revert hx hp hfo
            generalize wf.alloc (.cells #[.int .i64 0, .slice none 0 0, .slice none 0 0, .slice none 0 0] 31) = wa
            intro hx hp hfo
            have HPa := Lib.hid hp
            have HX := Lib.hid (And.intro hx hxs)
            have HFO := Lib.hid hfo
            refine hK.out _ _ ⟨(blk_all HPa.out.cur).1, HE.out _ HPa.out.bel⟩ ?_
            clear hK K hx hp hfo
            (try simp only [Act.put, List.setIfInBounds_toArray, List.set_cons_zero, List.set_cons_succ])
            repeat (first | (refine ordt_s (o := ?_) ?_ ?_ ?_; rotate_left 1; (focus ((simp only [List.getElem?_toArray, List.getElem?_cons_succ, List.getElem?_cons_zero]) <;> rfl)); (focus rfl); simp only [Act.put, List.setIfInBounds_toArray, List.set_cons_zero, List.set_cons_succ]) | (refine ordt_q (o := ?_) (v := ?_) ?_ ?_ ?_ ?_; rotate_left 2; (focus ((simp only [List.getElem?_toArray, List.getElem?_cons_succ, List.getElem?_cons_zero]) <;> rfl)); (focus rfl); (focus (intro w' hS; (try dsimp only at hS); go_split_ands; go_simp; (try (with_reducible rfl)))); simp only [Act.put, List.setIfInBounds_toArray, List.set_cons_zero, List.set_cons_succ]))
            refine ordt_e ?_
            (refine op_e (o := ?_) ?_ ?_ (fun K hK => ?_); rotate_left 1; (focus ((simp only [List.getElem?_toArray, List.getElem?_cons_succ, List.getElem?_cons_zero]) <;> rfl)); (focus rfl); go_simp)
            refine (l13Line_any c sn sg so cn cg co (w.heap.size + 2) s1 cap1 (fieldsT l) ph wa HPa.out.sz HPa.out.own HFO.out (fieldsT_pos l) (by have h := fieldsG_len l []; have e : (fieldsT l).length = (fieldsG [] l).length := rfl; omega) (fun x h => by have h2 := fieldsG_wlenS l [] x h; simp at h2; omega) hp0 hp3 (by omega)).mono ?_
            rintro e wl (⟨hok, D, vn', vg', vo', hD, rfl, hown', hb, hkp⟩ | ⟨hno, rfl, hb⟩)
            · replace hD : D = addP (kindL l) (argsL l) c := hD
              subst hD
              rw [show kindT ((fieldsT l).headD []) = kindL l from rfl]
              obtain ⟨tn, kn, rfl⟩ := own_shape hown'.n
              obtain ⟨tg, kg, rfl⟩ := own_shape hown'.g
              obtain ⟨to_, ko, rfl⟩ := own_shape hown'.o
              have hbl : Below w.heap.size w wl := HPa.out.bel.trans (hb.mono (by omega))
              have hrs := blk_below hb (by omega) HPa.out.res
              have hcr := blk_below hb (by omega) HPa.out.cur
              have hsz : w.heap.size + 2 ≤ wl.heap.size := Nat.le_trans HPa.out.sz hb.size
              have hx8 := (hkp _ (blk_lt HX.out.1) (own_tyb HPa.out.own.n HX.out.1 (by decide)) (own_tyb HPa.out.own.g HX.out.1 (by decide)) (own_tyb HPa.out.own.o HX.out.1 (by decide))).trans HX.out.1
              refine hK.out _ _ ⟨(blk_all hcr).1, HE.out _ hbl⟩ ?_
              clear hK K
              have HL := Lib.hid (And.intro hrs (And.intro hcr (And.intro hbl (And.intro hsz (And.intro hown' (And.intro hok trivial))))))
              have HX8 := Lib.hid (And.intro hx8 HX.out.2)
              clear hrs hcr hbl hsz hown' hok hb hkp hx8
              (try simp only [Act.put, List.setIfInBounds_toArray, List.set_cons_zero, List.set_cons_succ])
              repeat (first | (refine ordt_s (o := ?_) ?_ ?_ ?_; rotate_left 1; (focus ((simp only [List.getElem?_toArray, List.getElem?_cons_succ, List.getElem?_cons_zero]) <;> rfl)); (focus rfl); simp only [Act.put, List.setIfInBounds_toArray, List.set_cons_zero, List.set_cons_succ]) | (refine ordt_q (o := ?_) (v := ?_) ?_ ?_ ?_ ?_; rotate_left 2; (focus ((simp only [List.getElem?_toArray, List.getElem?_cons_succ, List.getElem?_cons_zero]) <;> rfl)); (focus rfl); (focus (intro w' hS; (try dsimp only at hS); go_split_ands; go_simp; (try (with_reducible rfl)))); simp only [Act.put, List.setIfInBounds_toArray, List.set_cons_zero, List.set_cons_succ]))
              refine ordt_e ?_
              obtain ⟨cX, fX⟩ := blk_all HX8.out.1
              (refine op_e (o := ?_) ?_ ?_ (fun K hK => ?_); rotate_left 1; (focus ((simp only [List.getElem?_toArray, List.getElem?_cons_succ, List.getElem?_cons_zero]) <;> rfl)); (focus rfl); go_simp)
              refine hK.out _ _ ⟨(blk_all (set4_ne (X := X) (r := w.heap.size + 1) HL.out.2.1 (by have := HX8.out.2; omega))).1, HE.out _ (li_bel (r := X) HL.out.2.2.1 (by have := HX8.out.2; omega))⟩ ?_
              clear hK K cX fX
              (try simp only [Act.put, List.setIfInBounds_toArray, List.set_cons_zero, List.set_cons_succ])
              repeat (first | (refine ordt_s (o := ?_) ?_ ?_ ?_; rotate_left 1; (focus ((simp only [List.getElem?_toArray, List.getElem?_cons_succ, List.getElem?_cons_zero]) <;> rfl)); (focus rfl); simp only [Act.put, List.setIfInBounds_toArray, List.set_cons_zero, List.set_cons_succ]) | (refine ordt_q (o := ?_) (v := ?_) ?_ ?_ ?_ ?_; rotate_left 2; (focus ((simp only [List.getElem?_toArray, List.getElem?_cons_succ, List.getElem?_cons_zero]) <;> rfl)); (focus rfl); (focus (intro w' hS; (try dsimp only at hS); go_split_ands; go_simp; (try (with_reducible rfl)))); simp only [Act.put, List.setIfInBounds_toArray, List.set_cons_zero, List.set_cons_succ]))
              refine ordt_nil ?_
              go_wp2_with fail
              go_meet
              exact P8.yes HL.out.1 HL.out.2.1 HX8.out.1 HL.out.2.2.1 HL.out.2.2.2.1 HX8.out.2 HL.out.2.2.2.2.1 HL.out.2.2.2.2.2.1
            · have hpl := HPa.out.below hb
              refine hK.out _ _ ⟨(blk_all hpl.cur).1, HE.out _ hpl.bel⟩ ?_
              clear hK K
              have HL := Lib.hid (And.intro hpl hno)
              have HX8 := Lib.hid (And.intro (blk_below hb (blk_lt HX.out.1) HX.out.1) HX.out.2)
              clear hpl hno hb
              (try simp only [Act.put, List.setIfInBounds_toArray, List.set_cons_zero, List.set_cons_succ])
              repeat (first | (refine ordt_s (o := ?_) ?_ ?_ ?_; rotate_left 1; (focus ((simp only [List.getElem?_toArray, List.getElem?_cons_succ, List.getElem?_cons_zero]) <;> rfl)); (focus rfl); simp only [Act.put, List.setIfInBounds_toArray, List.set_cons_zero, List.set_cons_succ]) | (refine ordt_q (o := ?_) (v := ?_) ?_ ?_ ?_ ?_; rotate_left 2; (focus ((simp only [List.getElem?_toArray, List.getElem?_cons_succ, List.getElem?_cons_zero]) <;> rfl)); (focus rfl); (focus (intro w' hS; (try dsimp only at hS); go_split_ands; go_simp; (try (with_reducible rfl)))); simp only [Act.put, List.setIfInBounds_toArray, List.set_cons_zero, List.set_cons_succ]))
              refine ordt_e ?_
              obtain ⟨cX, fX⟩ := blk_all HX8.out.1
              (refine op_e (o := ?_) ?_ ?_ (fun K hK => ?_); rotate_left 1; (focus ((simp only [List.getElem?_toArray, List.getElem?_cons_succ, List.getElem?_cons_zero]) <;> rfl)); (focus rfl); go_simp)
              refine hK.out _ _ ⟨(blk_all (set4_ne (X := X) (r := w.heap.size + 1) HL.out.1.cur (by have := HX8.out.2; omega))).1, HE.out _ (li_bel (r := X) HL.out.1.bel (by have := HX8.out.2; omega))⟩ ?_
              clear hK K cX fX
              (try simp only [Act.put, List.setIfInBounds_toArray, List.set_cons_zero, List.set_cons_succ])
              repeat (first | (refine ordt_s (o := ?_) ?_ ?_ ?_; rotate_left 1; (focus ((simp only [List.getElem?_toArray, List.getElem?_cons_succ, List.getElem?_cons_zero]) <;> rfl)); (focus rfl); simp only [Act.put, List.setIfInBounds_toArray, List.set_cons_zero, List.set_cons_succ]) | (refine ordt_q (o := ?_) (v := ?_) ?_ ?_ ?_ ?_; rotate_left 2; (focus ((simp only [List.getElem?_toArray, List.getElem?_cons_succ, List.getElem?_cons_zero]) <;> rfl)); (focus rfl); (focus (intro w' hS; (try dsimp only at hS); go_split_ands; go_simp; (try (with_reducible rfl)))); simp only [Act.put, List.setIfInBounds_toArray, List.set_cons_zero, List.set_cons_succ]))
              refine ordt_nil ?_
              go_wp2_with fail
              go_meet
              exact P8.no HL.out.1.res HL.out.1.bel HL.out.1.sz HX8.out.2 HL.out.2
        · (refine op_e (o := ?_) ?_ ?_ (fun K hK => ?_); rotate_left 1; (focus ((simp only [List.getElem?_toArray, List.getElem?_cons_succ, List.getElem?_cons_zero]) <;> rfl)); (focus rfl); go_simp)
          obtain ⟨X, hX⟩ : ∃ X, X = wd.heap.size := ⟨_, rfl⟩
          have hx := blk_new wd (.cells #[.int .i64 0, .slice none 0 0, .slice none 0 0, .slice none 0 0] 31)
          have hp := HPd.out.below (below_al wd (.cells #[.int .i64 0, .slice none 0 0, .slice none 0 0, .slice none 0 0] 31))
          have hxs : w.heap.size + 2 ≤ X := by rw [hX]; exact HPd.out.sz
          rw [← hX] at hx
          rw [← hX]
          clear hX
          revert hx hp
          generalize wd.alloc (.cells #[.int .i64 0, .slice none 0 0, .slice none 0 0, .slice none 0 0] 31) = wa
          intro hx hp
          have HPa := Lib.hid hp
          have HX := Lib.hid (And.intro hx hxs)
          skip
          refine hK.out _ _ ⟨(blk_all HPa.out.cur).1, HE.out _ HPa.out.bel⟩ ?_
          clear hK K hx hp
          (try simp only [Act.put, List.setIfInBounds_toArray, List.set_cons_zero, List.set_cons_succ])
          repeat (first | (refine ordt_s (o := ?_) ?_ ?_ ?_; rotate_left 1; (focus ((simp only [List.getElem?_toArray, List.getElem?_cons_succ, List.getElem?_cons_zero]) <;> rfl)); (focus rfl); simp only [Act.put, List.setIfInBounds_toArray, List.set_cons_zero, List.set_cons_succ]) | (refine ordt_q (o := ?_) (v := ?_) ?_ ?_ ?_ ?_; rotate_left 2; (focus ((simp only [List.getElem?_toArray, List.getElem?_cons_succ, List.getElem?_cons_zero]) <;> rfl)); (focus rfl); (focus (intro w' hS; (try dsimp only at hS); go_split_ands; go_simp; (try (with_reducible rfl)))); simp only [Act.put, List.setIfInBounds_toArray, List.set_cons_zero, List.set_cons_succ]))
          refine ordt_e ?_
          (refine op_e (o := ?_) ?_ ?_ (fun K hK => ?_); rotate_left 1; (focus ((simp only [List.getElem?_toArray, List.getElem?_cons_succ, List.getElem?_cons_zero]) <;> rfl)); (focus rfl); go_simp)
          refine (l13Fields_any l hl1 _).mono ?_
          rintro e wf ⟨s1, cap1, rfl, hfo, hfb⟩
          have HPf := Lib.hid (HPa.out.below hfb)
          have HFO := Lib.hid (own_sl hfo)
          have HX := Lib.hid (And.intro (blk_below hfb (blk_lt HX.out.1) HX.out.1) HX.out.2)
          refine hK.out _ _ ⟨(blk_all HPf.out.cur).1, HE.out _ HPf.out.bel⟩ ?_
          clear hK K hfb hfo
          (try simp only [Act.put, List.setIfInBounds_toArray, List.set_cons_zero, List.set_cons_succ])
          repeat (first | (refine ordt_s (o := ?_) ?_ ?_ ?_; rotate_left 1; (focus ((simp only [List.getElem?_toArray, List.getElem?_cons_succ, List.getElem?_cons_zero]) <;> rfl)); (focus rfl); simp only [Act.put, List.setIfInBounds_toArray, List.set_cons_zero, List.set_cons_succ]) | (refine ordt_q (o := ?_) (v := ?_) ?_ ?_ ?_ ?_; rotate_left 2; (focus ((simp only [List.getElem?_toArray, List.getElem?_cons_succ, List.getElem?_cons_zero]) <;> rfl)); (focus rfl); (focus (intro w' hS; (try dsimp only at hS); go_split_ands; go_simp; (try (with_reducible rfl)))); simp only [Act.put, List.setIfInBounds_toArray, List.set_cons_zero, List.set_cons_succ]))
          refine ordt_e ?_
          (refine op_e (o := ?_) ?_ ?_ (fun K hK => ?_); rotate_left 1; (focus ((simp only [List.getElem?_toArray, List.getElem?_cons_succ, List.getElem?_cons_zero]) <;> rfl)); (focus rfl); go_simp)
          refine (l13Line_any c sn sg so cn cg co (w.heap.size + 2) s1 cap1 (fieldsT l) ph wf HPf.out.sz HPf.out.own HFO.out (fieldsT_pos l) (by have h := fieldsG_len l []; have e : (fieldsT l).length = (fieldsG [] l).length := rfl; omega) (fun x h => by have h2 := fieldsG_wlenS l [] x h; simp at h2; omega) hp0 hp3 (by omega)).mono ?_
          rintro e wl (⟨hok, D, vn', vg', vo', hD, rfl, hown', hb, hkp⟩ | ⟨hno, rfl, hb⟩)
          · replace hD : D = addP (kindL l) (argsL l) c := hD
            subst hD
            rw [show kindT ((fieldsT l).headD []) = kindL l from rfl]
            obtain ⟨tn, kn, rfl⟩ := own_shape hown'.n
            obtain ⟨tg, kg, rfl⟩ := own_shape hown'.g
            obtain ⟨to_, ko, rfl⟩ := own_shape hown'.o
            have hbl : Below w.heap.size w wl := HPf.out.bel.trans (hb.mono (by omega))
            have hrs := blk_below hb (by omega) HPf.out.res
            have hcr := blk_below hb (by omega) HPf.out.cur
            have hsz : w.heap.size + 2 ≤ wl.heap.size := Nat.le_trans HPf.out.sz hb.size
            have hx8 := (hkp _ (blk_lt HX.out.1) (own_tyb HPf.out.own.n HX.out.1 (by decide)) (own_tyb HPf.out.own.g HX.out.1 (by decide)) (own_tyb HPf.out.own.o HX.out.1 (by decide))).trans HX.out.1
            refine hK.out _ _ ⟨(blk_all hcr).1, HE.out _ hbl⟩ ?_
            clear hK K
            have HL := Lib.hid (And.intro hrs (And.intro hcr (And.intro hbl (And.intro hsz (And.intro hown' (And.intro hok trivial))))))
            have HX8 := Lib.hid (And.intro hx8 HX.out.2)
            clear hrs hcr hbl hsz hown' hok hb hkp hx8
            (try simp only [Act.put, List.setIfInBounds_toArray, List.set_cons_zero, List.set_cons_succ])
            repeat (first | (refine ordt_s (o := ?_) ?_ ?_ ?_; rotate_left 1; (focus ((simp only [List.getElem?_toArray, List.getElem?_cons_succ, List.getElem?_cons_zero]) <;> rfl)); (focus rfl); simp only [Act.put, List.setIfInBounds_toArray, List.set_cons_zero, List.set_cons_succ]) | (refine ordt_q (o := ?_) (v := ?_) ?_ ?_ ?_ ?_; rotate_left 2; (focus ((simp only [List.getElem?_toArray, List.getElem?_cons_succ, List.getElem?_cons_zero]) <;> rfl)); (focus rfl); (focus (intro w' hS; (try dsimp only at hS); go_split_ands; go_simp; (try (with_reducible rfl)))); simp only [Act.put, List.setIfInBounds_toArray, List.set_cons_zero, List.set_cons_succ]))
            refine ordt_e ?_
            obtain ⟨cX, fX⟩ := blk_all HX8.out.1
            (refine op_e (o := ?_) ?_ ?_ (fun K hK => ?_); rotate_left 1; (focus ((simp only [List.getElem?_toArray, List.getElem?_cons_succ, List.getElem?_cons_zero]) <;> rfl)); (focus rfl); go_simp)
            refine hK.out _ _ ⟨(blk_all (set4_ne (X := X) (r := w.heap.size + 1) HL.out.2.1 (by have := HX8.out.2; omega))).1, HE.out _ (li_bel (r := X) HL.out.2.2.1 (by have := HX8.out.2; omega))⟩ ?_
            clear hK K cX fX
            (try simp only [Act.put, List.setIfInBounds_toArray, List.set_cons_zero, List.set_cons_succ])
            repeat (first | (refine ordt_s (o := ?_) ?_ ?_ ?_; rotate_left 1; (focus ((simp only [List.getElem?_toArray, List.getElem?_cons_succ, List.getElem?_cons_zero]) <;> rfl)); (focus rfl); simp only [Act.put, List.setIfInBounds_toArray, List.set_cons_zero, List.set_cons_succ]) | (refine ordt_q (o := ?_) (v := ?_) ?_ ?_ ?_ ?_; rotate_left 2; (focus ((simp only [List.getElem?_toArray, List.getElem?_cons_succ, List.getElem?_cons_zero]) <;> rfl)); (focus rfl); (focus (intro w' hS; (try dsimp only at hS); go_split_ands; go_simp; (try (with_reducible rfl)))); simp only [Act.put, List.setIfInBounds_toArray, List.set_cons_zero, List.set_cons_succ]))
            refine ordt_nil ?_
            go_wp2_with fail
            go_meet
            exact P8.yes HL.out.1 HL.out.2.1 HX8.out.1 HL.out.2.2.1 HL.out.2.2.2.1 HX8.out.2 HL.out.2.2.2.2.1 HL.out.2.2.2.2.2.1
          · have hpl := HPf.out.below hb
            refine hK.out _ _ ⟨(blk_all hpl.cur).1, HE.out _ hpl.bel⟩ ?_
            clear hK K
            have HL := Lib.hid (And.intro hpl hno)
            have HX8 := Lib.hid (And.intro (blk_below hb (blk_lt HX.out.1) HX.out.1) HX.out.2)
            clear hpl hno hb
            (try simp only [Act.put, List.setIfInBounds_toArray, List.set_cons_zero, List.set_cons_succ])
            repeat (first | (refine ordt_s (o := ?_) ?_ ?_ ?_; rotate_left 1; (focus ((simp only [List.getElem?_toArray, List.getElem?_cons_succ, List.getElem?_cons_zero]) <;> rfl)); (focus rfl); simp only [Act.put, List.setIfInBounds_toArray, List.set_cons_zero, List.set_cons_succ]) | (refine ordt_q (o := ?_) (v := ?_) ?_ ?_ ?_ ?_; rotate_left 2; (focus ((simp only [List.getElem?_toArray, List.getElem?_cons_succ, List.getElem?_cons_zero]) <;> rfl)); (focus rfl); (focus (intro w' hS; (try dsimp only at hS); go_split_ands; go_simp; (try (with_reducible rfl)))); simp only [Act.put, List.setIfInBounds_toArray, List.set_cons_zero, List.set_cons_succ]))
            refine ordt_e ?_
            obtain ⟨cX, fX⟩ := blk_all HX8.out.1
            (refine op_e (o := ?_) ?_ ?_ (fun K hK => ?_); rotate_left 1; (focus ((simp only [List.getElem?_toArray, List.getElem?_cons_succ, List.getElem?_cons_zero]) <;> rfl)); (focus rfl); go_simp)
            refine hK.out _ _ ⟨(blk_all (set4_ne (X := X) (r := w.heap.size + 1) HL.out.1.cur (by have := HX8.out.2; omega))).1, HE.out _ (li_bel (r := X) HL.out.1.bel (by have := HX8.out.2; omega))⟩ ?_
            clear hK K cX fX
            (try simp only [Act.put, List.setIfInBounds_toArray, List.set_cons_zero, List.set_cons_succ])
            repeat (first | (refine ordt_s (o := ?_) ?_ ?_ ?_; rotate_left 1; (focus ((simp only [List.getElem?_toArray, List.getElem?_cons_succ, List.getElem?_cons_zero]) <;> rfl)); (focus rfl); simp only [Act.put, List.setIfInBounds_toArray, List.set_cons_zero, List.set_cons_succ]) | (refine ordt_q (o := ?_) (v := ?_) ?_ ?_ ?_ ?_; rotate_left 2; (focus ((simp only [List.getElem?_toArray, List.getElem?_cons_succ, List.getElem?_cons_zero]) <;> rfl)); (focus rfl); (focus (intro w' hS; (try dsimp only at hS); go_split_ands; go_simp; (try (with_reducible rfl)))); simp only [Act.put, List.setIfInBounds_toArray, List.set_cons_zero, List.set_cons_succ]))
            refine ordt_nil ?_
            go_wp2_with fail
            go_meet
            exact P8.no HL.out.1.res HL.out.1.bel HL.out.1.sz HX8.out.2 HL.out.2
      case rest =>
        obtain ⟨hrs, hbl, hsz, hc⟩ := hcut
        have HR := Lib.hid (And.intro hrs (And.intro hbl hsz))
        clear hrs hbl hsz
        rcases hc with ⟨hok, rfl, rfl, X, vn, vg, vo, a0, a1, a2, a3, rfl, hx2, hxb, hcb, hown⟩ | ⟨hno, rfl⟩
        · obtain ⟨tn, kn, rfl⟩ := own_shape hown.n
          obtain ⟨tg, kg, rfl⟩ := own_shape hown.g
          obtain ⟨to_, ko, rfl⟩ := own_shape hown.o
          have hD := hx2
          have HR2 := Lib.hid (And.intro hok (And.intro hx2 (And.intro hxb (And.intro hcb hown))))
          clear hok hx2 hxb hcb hown hD
          obtain ⟨bx, bf⟩ := blk_all HR2.out.2.2.1
          have zs := HE.out _ HR.out.2.1
          by_cases h20 : l.length ≤ 20
          · have hz := HR2.out.2.2.2.1
            obtain ⟨cc, cf⟩ := blk_all hz
            clear hz
            have hLO := HLK.out.2.2 ⟨h20, HR2.out.1⟩
            have HLO := Lib.hid hLO
            clear hLO
            go_upto_region 10 with fail
            have hz4 : PsI w (addP (kindL l) (argsL l) c) (.slice tn (addP (kindL l) (argsL l) c).next.length kn) (.slice tg (addP (kindL l) (argsL l) c).gates.length kg) (.slice to_ (addP (kindL l) (argsL l) c).outs.length ko) ((((wc.setCell ⟨w.heap.size + 1, 0, none⟩ (.int .i64 (addP (kindL l) (argsL l) c).inp)).setCell ⟨w.heap.size + 1, 1, none⟩ (.slice tn (addP (kindL l) (argsL l) c).next.length kn)).setCell ⟨w.heap.size + 1, 2, none⟩ (.slice tg (addP (kindL l) (argsL l) c).gates.length kg)).setCell ⟨w.heap.size + 1, 3, none⟩ (.slice to_ (addP (kindL l) (argsL l) c).outs.length ko)) :=
              ⟨set4_ne HR.out.1 (by omega), by simpa using blk_set (o := 3) (v := (.slice to_ (addP (kindL l) (argsL l) c).outs.length ko)) (blk_set (o := 2) (v := (.slice tg (addP (kindL l) (argsL l) c).gates.length kg)) (blk_set (o := 1) (v := (.slice tn (addP (kindL l) (argsL l) c).next.length kn)) (blk_set (o := 0) (v := .int .i64 (addP (kindL l) (argsL l) c).inp) HR2.out.2.2.2.1))), HR2.out.2.2.2.2.sets4 (by omega) (Nat.le_refl _), li_bel HR.out.2.1 (by omega), by simpa using HR.out.2.2⟩
            have HZ4 := Lib.hid hz4
            clear hz4 bx bf cc cf zs
            have hmx : max 1 (kindL l) = phS (k + 1) (kindL l) := by unfold phS; rw [if_neg (Nat.succ_ne_zero k)]
            rw [hmx]
            clear hmx
            go_wp2_with fail
            go_roundw
            case rel => exact ⟨k + 1, kindL l, addP (kindL l) (argsL l) c, tn, tg, to_, kn, kg, ko, by omega, by go_num, rfl, Pr.step HPR.out HLK.out.1 HLO.out, HZ4.out⟩
            case measure => simp [intOf]; omega
          · have HNO := Lib.hid (show ¬ lineOk k part l from fun h => h20 h.1)
            obtain ⟨rc, rf⟩ := blk_all HR.out.1
            clear bx bf
            go_wp2_with fail
            all_goals exact ps_ret0 HR.out.1 HR.out.2.1 (.inl ⟨k, part, c, l, HPR.out, HLK.out.1, HNO.out, rfl, rfl⟩) rfl rfl rfl
        · have HNO := Lib.hid (show ¬ lineOk k part l from fun h => hno (HLK.out.2.1 h).2)
          clear hno
          obtain ⟨rc, rf⟩ := blk_all HR.out.1
          go_wp2_with fail
          all_goals exact ps_ret0 HR.out.1 HR.out.2.1 (.inl ⟨k, part, c, l, HPR.out, HLK.out.1, HNO.out, rfl, rfl⟩) rfl rfl rfl
    · obtain rfl : k = ls.length := by omega
      have hv : CirV wr (.agg #[.int .i64 c.inp, .slice sn c.next.length cn, .slice sg c.gates.length cg, .slice so c.outs.length co]) c := own_cv HP.out.own
      have HV := Lib.hid hv
      clear hv
      obtain ⟨cb, cf⟩ := blk_all HP.out.cur
      by_cases hz : ls.length = 0
      · have e0 : ph = 0 := by rw [HPH.out]; unfold phS; rw [if_pos hz]
        have HZ := Lib.hid hz
        subst e0
        obtain ⟨rc, rf⟩ := blk_all HP.out.res
        go_wp2_with fail
        all_goals exact ps_ret0 HP.out.res HP.out.bel (.inr ⟨part, c, HPR.out, .inl ⟨.inl HZ.out, rfl, rfl⟩⟩) rfl (by first | rfl | (rw [HZ.out]; rfl)) rfl
      · have e0 : (ph == 0) = false := beq_eq_false_iff_ne.2 (by rw [HPH.out]; unfold phS; rw [if_neg hz]; omega)
        cases hval : c.validB
        · have HVL := Lib.hid hval
          clear hval
          go_upto_region 12 with (go_at_call 25; ((with_reducible refine (CircuitValid_s _ c _ HV.out).mono ?_); rintro e w1 ⟨rfl, hq⟩; rw [HVL.out]; have HP1 := Lib.hid (HP.out.below hq); clear hq cb cf; obtain ⟨rc, rf⟩ := blk_all HP1.out.res))
          go_wp2_with fail
          all_goals exact ps_ret0 HP1.out.res HP1.out.bel (.inr ⟨part, c, HPR.out, .inl ⟨.inr HVL.out, rfl, rfl⟩⟩) rfl rfl rfl
        · have HVL := Lib.hid hval
          clear hval
          go_upto_region 13 with (go_at_call 25; ((with_reducible refine (CircuitValid_s _ c _ HV.out).mono ?_); rintro e w1 ⟨rfl, hq⟩; rw [HVL.out]; have HP1 := Lib.hid (HP.out.below hq); clear hq cb cf; obtain ⟨rc, rf⟩ := blk_all HP1.out.res; obtain ⟨cb, cf⟩ := blk_all HP1.out.cur))
          go_wp2_with fail
          all_goals exact ps_ret HP1.out.res HP1.out.bel HP1.out.own (.inr ⟨part, c, HPR.out, .inr ⟨by omega, HVL.out, rfl, rfl⟩⟩) rfl rfl rfl

end Go.Proofs.YtnifgamlmaembaaDoor
