import Derived.Test.YtnifgamlmaembaaDoorTK
import Derived.Test.YtnifgamlmaembaaDoorG3
namespace Go.Proofs.YtnifgamlmaembaaDoor
set_option linter.unusedVariables false
set_option linter.unusedSimpArgs false
open Go.RowKit

/-! ParseCircuit of the program. -/

def PiPost (ls : List Tx) (w : World) (e : Ending) (w' : World) : Prop :=
  ∃ (D : Cir) (n : Int) (vn vg vo : Value), PR ls D n ∧ e = .returned (.tuple #[.agg #[.int .i64 D.inp, vn, vg, vo], .int .i64 n]) ∧ CirOwn w' w.heap.size D vn vg vo ∧ Below w.heap.size w w'

/-- The blocks of the call: the result, the words, the circuit. -/
structure PcI (w : World) (c : Cir) (vn vg vo : Value) (W : World) : Prop where
  res : W.heap[w.heap.size]? = some (.cells #[.int .i64 0, .slice none 0 0, .slice none 0 0, .slice none 0 0] 31 (0, 0))
  wd : W.heap[w.heap.size + 1]? = some (.cells #[sv inputsW, sv latchW, sv gateW, sv outW] 9 (0, 0))
  out : OutC W (w.heap.size + 3) (w.heap.size + 2) c.inp c.next c.gates c.outs vn vg vo
  bel : Below w.heap.size w W
  sz : w.heap.size + 3 ≤ W.heap.size
theorem PcI.below {w W W' : World} {c : Cir} {vn vg vo : Value} (h : PcI w c vn vg vo W) (hb : Below W.heap.size W W') : PcI w c vn vg vo W' :=
  ⟨blk_below hb (blk_lt h.res) h.res, blk_below hb (blk_lt h.wd) h.wd, h.out.below hb, h.bel.trans (hb.mono h.bel.size), Nat.le_trans h.sz hb.size⟩
theorem PcI.alloc {w W : World} {c : Cir} {vn vg vo : Value} (h : PcI w c vn vg vo W) (o : Obj) : PcI w c vn vg vo (W.alloc o) := h.below ((Below.refl _ _).alloc (Nat.le_refl _) _)
theorem PcI.drew {w W : World} {c : Cir} {vn vg vo : Value} (h : PcI w c vn vg vo W) : PcI w c vn vg vo W.drew := h.below (Below.refl _ _).drew
theorem PcI.cells {w W : World} {c : Cir} {vn vg vo : Value} (h : PcI w c vn vg vo W) : (∀ o, W.cell? ⟨w.heap.size + 2, o, none⟩ = #[Value.int .i64 c.inp, vn, vg, vo][o]?) ∧ ∀ o, W.frozen? ⟨w.heap.size + 2, o, none⟩ = false := blk_all h.out.blk
theorem zero_ownP (W : World) (b : Nat) : CirOwn W b c0 (.slice none 0 0) (.slice none 0 0) (.slice none 0 0) :=
  ⟨World.ownsRow_nil _ _ _ _, World.ownsRow_nil _ _ _ _, World.ownsRow_nil _ _ _ _, (fun k hk => by cases hk), by simp [c0], by simp [c0], by simp [c0]⟩
/-- What an append into a field leaves. -/
theorem PcI.upd {w W W2 : World} {c d : Cir} {vn vg vo vn' vg' vo' v : Value} {o : Nat} (h : PcI w c vn vg vo W) (hb : Below (w.heap.size + 3) W W2) (ho : OutC (W2.setCell ⟨w.heap.size + 2, o, none⟩ v) (w.heap.size + 3) (w.heap.size + 2) d.inp d.next d.gates d.outs vn' vg' vo') :
    PcI w d vn' vg' vo' (W2.setCell ⟨w.heap.size + 2, o, none⟩ v) := by
  have hs := hb.size
  have h3 := h.sz
  refine ⟨blk_set_ne (by omega) (blk_below hb (by omega) h.res), blk_set_ne (by omega) (blk_below hb (by omega) h.wd), ho, ?_, by simp; omega⟩
  exact (h.bel.trans (hb.mono (by omega))).setCell (p := ⟨w.heap.size + 2, o, none⟩) (by simp) v

theorem pi_ret {ls : List Tx} {w W : World} {D : Cir} {n : Int} {base : Nat} {vn vg vo : Value} {a : Act} (h0 : W.heap[w.heap.size]? = some (.cells #[.int .i64 0, .slice none 0 0, .slice none 0 0, .slice none 0 0] 31 (0, 0))) (hbl : Below w.heap.size w W) (hown : CirOwn W base D vn vg vo) (hlt : w.heap.size < base) (hpr : PR ls D n)
    (ha : a.tmps.getD 2 undef = .pointer (some ⟨w.heap.size, 0, none⟩)) (h3 : a.tmps.getD 3 undef = .int .i64 n) (hd : a.defers = []) :
    bodyPost Tryd.prog Tryd.f18 (PiPost ls w) .ret a ((((W.setCell ⟨w.heap.size, 0, none⟩ (.int .i64 D.inp)).setCell ⟨w.heap.size, 1, none⟩ vn).setCell ⟨w.heap.size, 2, none⟩ vg).setCell ⟨w.heap.size, 3, none⟩ vo) := by
  have hZ : ((((W.setCell ⟨w.heap.size, 0, none⟩ (.int .i64 D.inp)).setCell ⟨w.heap.size, 1, none⟩ vn).setCell ⟨w.heap.size, 2, none⟩ vg).setCell ⟨w.heap.size, 3, none⟩ vo).heap[w.heap.size]? = some (.cells #[.int .i64 D.inp, vn, vg, vo] 31 (0, 0)) := by
    simpa using blk_set (o := 3) (v := vo) (blk_set (o := 2) (v := vg) (blk_set (o := 1) (v := vn) (blk_set (o := 0) (v := .int .i64 D.inp) h0)))
  have hR := hown.sets4 (r := w.heap.size) hlt (base := w.heap.size) (by omega) (a := .int .i64 D.inp) (b' := vn) (c' := vg) (d := vo)
  have hB := ((((hbl).setCell (p := ⟨w.heap.size, 0, none⟩) (by simp) (.int .i64 D.inp)).setCell (p := ⟨w.heap.size, 1, none⟩) (by simp) vn).setCell (p := ⟨w.heap.size, 2, none⟩) (by simp) vg).setCell (p := ⟨w.heap.size, 3, none⟩) (by simp) vo
  clear h0 hbl hown
  revert hZ hR hB
  generalize ((((W.setCell ⟨w.heap.size, 0, none⟩ (.int .i64 D.inp)).setCell ⟨w.heap.size, 1, none⟩ vn).setCell ⟨w.heap.size, 2, none⟩ vg).setCell ⟨w.heap.size, 3, none⟩ vo) = WZ
  intro hZ hR hB
  have cr := (blk_all hZ).1
  have ha' : a.tmps[2]?.getD undef = .pointer (some ⟨w.heap.size, 0, none⟩) := by simpa using ha
  have h3' : a.tmps[3]?.getD undef = .int .i64 n := by simpa using h3
  exact bodyPost_ret (v := .tuple #[.agg #[.int .i64 D.inp, vn, vg, vo], .int .i64 n]) (by simp [results, Tryd.results18, go_sem, cr, ha', h3']) hd ⟨D, n, vn, vg, vo, hpr, rfl, hR, hB⟩

theorem pi_ret0 {ls : List Tx} {w W : World} {n : Int} {a : Act} (h0 : W.heap[w.heap.size]? = some (.cells #[.int .i64 0, .slice none 0 0, .slice none 0 0, .slice none 0 0] 31 (0, 0))) (hbl : Below w.heap.size w W) (hpr : PR ls c0 n)
    (ha : a.tmps.getD 2 undef = .pointer (some ⟨w.heap.size, 0, none⟩)) (h3 : a.tmps.getD 3 undef = .int .i64 n) (hd : a.defers = []) :
    bodyPost Tryd.prog Tryd.f18 (PiPost ls w) .ret a ((((W.setCell ⟨w.heap.size, 0, none⟩ (.int .i64 0)).setCell ⟨w.heap.size, 1, none⟩ (.slice none 0 0)).setCell ⟨w.heap.size, 2, none⟩ (.slice none 0 0)).setCell ⟨w.heap.size, 3, none⟩ (.slice none 0 0)) :=
  pi_ret (D := c0) h0 hbl (zero_ownP W (w.heap.size + 1)) (Nat.lt_succ_self _) hpr ha h3 hd

theorem numbers_anyM (s0 : Option Addr) (cap0 M : Nat) (ws : List Tx) (w : World) (hM : ws.length = M) (hs : Sl w s0 (strs ws)) (hl : ws.length ≤ 2000000) (hx : ∀ x ∈ ws, x.length ≤ 1048576) (hg : Gl w) :
    Calls Tryd.prog 42 #[.slice s0 M cap0] w (NbPost ws w) := by subst hM; exact numbers_any s0 cap0 ws w hs hl hx hg
theorem nums_keep {w3 w4 w5 w6 : World} {b : Nat} {e : TypeId} {sz n m cap : Nat} {v : Value} {xs ys : List Value} {s1 : Option Addr} (hv : w3.ownsRow b e sz v m ys) (hn : w4.ownsRow w3.heap.size 3 1 (.slice s1 n cap) n xs)
    (hb : Below w4.heap.size w4 w5) (hg : w5.grownBy w6 v.ownBlock) : w6.ownsRow w3.heap.size 3 1 (.slice s1 n cap) n xs :=
  (own_below hn hb).kept hg (by
    cases h : (Value.slice s1 n cap).ownBlock with
    | none => exact .inl rfl
    | some g => exact .inr (fun e => by have h1 := (own_blk hn h).1; have h2 := (own_blk hv e.symm).2; omega))
theorem fieldsG_wlen : ∀ (s cur : Tx), ∀ x ∈ fieldsG cur s, x.length ≤ cur.length + s.length
  | [], cur, x, h => by simp [fieldsG] at h; subst h; simp
  | c :: r, cur, x, h => by
    unfold fieldsG at h
    split at h
    · rcases List.mem_cons.1 h with rfl | h
      · simp
      · have := fieldsG_wlen r [] x h; simp at this ⊢; omega
    · have := fieldsG_wlen r (cur ++ [c]) x h; simp at this ⊢; omega
theorem fields_wlen {l x : Tx} (h : x ∈ fieldsT l) : x.length ≤ l.length := by have := fieldsG_wlen l [] x h; simpa using this

set_option maxRecDepth 100000 in
set_option maxHeartbeats 6400000 in
theorem ParseCircuit_i (s0 : Option Addr) (cap0 : Nat) (ls : List Tx) (w : World) (hs : Sl w s0 (strs ls)) (hl : ls.length ≤ 1048576) (hx : ∀ x ∈ ls, x.length ≤ 1048576) (hg : Gl w) :
    Calls Tryd.prog 18 #[.slice s0 ls.length cap0] w (PiPost ls w) := by
  have HS := Lib.hid (And.intro hs (And.intro hx hg))
  clear hs hx hg
  have h0 : PcI w c0 (.slice none 0 0) (.slice none 0 0) (.slice none 0 0) (((w.alloc (.cells #[.int .i64 0, .slice none 0 0, .slice none 0 0, .slice none 0 0] 31)).alloc (.cells #[.string {data := #[105, 110, 112, 117, 116, 115]}, .string {data := #[108, 97, 116, 99, 104]}, .string {data := #[103, 97, 116, 101]}, .string {data := #[111, 117, 116]}] 9)).alloc (.cells #[.int .i64 0, .slice none 0 0, .slice none 0 0, .slice none 0 0] 31)) :=
    ⟨by simpa using (blk3 w (.cells #[.int .i64 0, .slice none 0 0, .slice none 0 0, .slice none 0 0] 31) (.cells #[.string {data := #[105, 110, 112, 117, 116, 115]}, .string {data := #[108, 97, 116, 99, 104]}, .string {data := #[103, 97, 116, 101]}, .string {data := #[111, 117, 116]}] 9) (.cells #[.int .i64 0, .slice none 0 0, .slice none 0 0, .slice none 0 0] 31)).1, (blk3 w (.cells #[.int .i64 0, .slice none 0 0, .slice none 0 0, .slice none 0 0] 31) (.cells #[.string {data := #[105, 110, 112, 117, 116, 115]}, .string {data := #[108, 97, 116, 99, 104]}, .string {data := #[103, 97, 116, 101]}, .string {data := #[111, 117, 116]}] 9) (.cells #[.int .i64 0, .slice none 0 0, .slice none 0 0, .slice none 0 0] 31)).2.1, ⟨(blk3 w (.cells #[.int .i64 0, .slice none 0 0, .slice none 0 0, .slice none 0 0] 31) (.cells #[.string {data := #[105, 110, 112, 117, 116, 115]}, .string {data := #[108, 97, 116, 99, 104]}, .string {data := #[103, 97, 116, 101]}, .string {data := #[111, 117, 116]}] 9) (.cells #[.int .i64 0, .slice none 0 0, .slice none 0 0, .slice none 0 0] 31)).2.2.1, World.ownsRow_nil _ _ _ _, World.ownsRow_nil _ _ _ _, World.ownsRow_nil _ _ _ _, (fun k hk => by cases hk)⟩, (((Below.refl _ _).alloc (Nat.le_refl _) _).alloc (by simp) _).alloc (by simp; omega) _, by simp⟩
  have H0 := Lib.hid h0
  clear h0
  go_enter Tryd.func18, Tryd.ntmps18
  go_upto_region 5 with fail
  revert H0
  generalize (((w.alloc (.cells #[.int .i64 0, .slice none 0 0, .slice none 0 0, .slice none 0 0] 31)).alloc (.cells #[.string {data := #[105, 110, 112, 117, 116, 115]}, .string {data := #[108, 97, 116, 99, 104]}, .string {data := #[103, 97, 116, 101]}, .string {data := #[111, 117, 116]}] 9)).alloc (.cells #[.int .i64 0, .slice none 0 0, .slice none 0 0, .slice none 0 0] 31)) = W0
  intro H0
  rw [show w.heap.size + 1 + 1 = w.heap.size + 2 from rfl]
  go_loopw [18, 6] (fun v18 v6 wr => ∃ (k : Nat) (part : Int) (c : Cir) (sn sg so : Option Addr) (cn cg co : Nat), k ≤ ls.length ∧ v18 = .int .i64 k ∧ v6 = .int .i64 part ∧ Pr ls k part c ∧ PcI w c (.slice sn c.next.length cn) (.slice sg c.gates.length cg) (.slice so c.outs.length co) wr) (fun v18 _ _ => ls.length - (intOf v18).toNat)
  case atStart => exact ⟨0, -1, c0, none, none, none, 0, 0, 0, Nat.zero_le _, rfl, rfl, Pr.nil, H0.out⟩
  case round =>
    clear H0
    obtain ⟨k, part, c, sn, sg, so, cn, cg, co, hk, rfl, rfl, hpr, hp⟩ := hrel
    obtain ⟨p1, p2, p3, p4, p5, p6⟩ := hpr.len
    have HPR := Lib.hid hpr
    have HP := Lib.hid hp
    clear hpr hp
    by_cases hlt : k < ls.length
    · obtain ⟨l, hlk⟩ := get_of_lt hlt
      obtain ⟨sb, sf, rfl, hsb, zs⟩ := HS.out.1.str HP.out.bel hlk
      have hl1 := HS.out.2.1 l (List.mem_of_getElem? hlk)
      have HLK := Lib.hid hlk
      clear hlk hsb
      unfold sv at zs
      obtain ⟨M, hM⟩ : ∃ M, (fieldsT l).length = M + 1 := ⟨(fieldsT l).length - 1, by have := fieldsT_pos l; omega⟩
      have hM2 : M ≤ 1048576 := by have := fieldsG_len l []; have e : (fieldsT l).length = (fieldsG [] l).length := rfl; omega
      have hMA : (argsW l).length = M := by unfold argsW; rw [List.length_tail, hM]; rfl
      obtain ⟨f0, hf0⟩ : ∃ f0, (fieldsT l)[0]? = some f0 := get_of_lt (by omega)
      have hkd : kindT f0 = kindL l := by
        unfold kindL
        congr 1
        cases h : fieldsT l with
        | nil => rw [h] at hf0; simp at hf0
        | cons a r => rw [h] at hf0; simpa using hf0.symm
      have hgw := Lib.hid (HS.out.2.2.mono (B := w.heap.size) HS.out.2.2.sz HP.out.bel)
      have HF := Lib.hid (And.intro hM (And.intro hMA (And.intro hf0 hkd)))
      clear hM hMA hf0 hkd
      go_upto_region 8 with (go_at_call 40; go_loud (refine (split_any l hl1 _ hgw.out).mono ?_; rintro e w2 ⟨rfl, rfl⟩))
      clear zs
      obtain ⟨F, hF⟩ : ∃ F, F = wr.heap.size := ⟨_, rfl⟩
      have hkF := blk_new wr (.cells (strs (fieldsT l)).toArray 9)
      have hp2 := HP.out.alloc (.cells (strs (fieldsT l)).toArray 9)
      rw [← hF] at hkF
      rw [← hF]
      clear hF HP
      revert hp2 hkF
      generalize wr.alloc (.cells (strs (fieldsT l)).toArray 9) = W2
      intro hkF hp2
      have HP := Lib.hid hp2
      have HKF := Lib.hid hkF
      clear hp2 hkF
      rw [HF.out.1]
      have zf : W2.cell? ⟨F, 0, none⟩ = some (.string ⟨f0.toArray⟩) := by
        rw [blk_cell HKF.out, List.getElem?_toArray]
        exact strs_get HF.out.2.2.1
      go_upto_region 9 with (go_at_call 41; go_loud (refine (kind_any (w.heap.size + 1) f0 _ (blk_all HP.out.wd).1).mono ?_; rintro e w3 ⟨rfl, rfl⟩; rw [HF.out.2.2.2]))
      obtain ⟨kd, hkd⟩ : ∃ kd, kd = kindL l := ⟨_, rfl⟩
      rw [← hkd]
      have HKD := Lib.hid hkd
      have hkc : kd = -1 ∨ kd = 0 ∨ kd = 1 ∨ kd = 2 ∨ kd = 3 := by rw [hkd]; exact kindT_cases _
      clear hkd
      have hkd1 : -1 ≤ kd := by omega
      have hkd3 : kd ≤ 3 := by omega
      by_cases hM0 : M = 0
      · subst hM0
        have hgn := Lib.hid (HS.out.2.2.mono (B := w.heap.size) HS.out.2.2.sz HP.out.bel)
        have hwl := Lib.hid (fun x (h : x ∈ argsW l) => Nat.le_trans (fields_wlen (List.mem_of_mem_tail h)) hl1 : ∀ x ∈ argsW l, x.length ≤ 1048576)
        clear zf
        go_upto_region 10 with (go_at_call 42; go_loud (refine (numbers_anyM _ _ 0 (argsW l) _ HF.out.2.1 (.inl (by have := HF.out.2.1; have e : argsW l = [] := List.eq_nil_of_length_eq_zero this; rw [e]; rfl)) (by have := HF.out.2.1; omega) hwl.out hgn.out).mono ?_; rintro e w4 ⟨hb, h⟩; have HP4 := Lib.hid (HP.out.below hb); clear hb; rcases h with ⟨hok, s1, cap1, rfl, ho⟩ | ⟨hok, rfl⟩))
        · rw [HF.out.2.1] at ho ⊢
          have HNO := Lib.hid (show ¬ lineOk k part l from fun h => by have h1 := h.2.2.2.1; rw [HF.out.2.1] at h1; unfold wantK at h1; split at h1 <;> omega)
          obtain ⟨rc, rf⟩ := blk_all HP4.out.res
          go_wp2_with fail
          all_goals exact pi_ret0 HP4.out.res HP4.out.bel (.inl ⟨k, part, c, l, HPR.out, HLK.out, HNO.out, rfl, rfl⟩) rfl rfl rfl
        · have HNO := Lib.hid (show ¬ lineOk k part l from fun h => by have h1 := h.2.2.1; rw [hok] at h1; cases h1)
          obtain ⟨rc, rf⟩ := blk_all HP4.out.res
          go_wp2_with fail
          all_goals exact pi_ret0 HP4.out.res HP4.out.bel (.inl ⟨k, part, c, l, HPR.out, HLK.out, HNO.out, rfl, rfl⟩) rfl rfl rfl
      · have hsl : Sl w3 (some ⟨F, 1, none⟩) (strs (argsW l)) := .inr ⟨F, 1, rfl, fun j v hv => by
          rw [blk_cell HKF.out, List.getElem?_toArray]
          unfold argsW at hv
          unfold strs at hv ⊢
          rw [List.getElem?_map, List.getElem?_tail] at hv
          rw [List.getElem?_map, Nat.add_comm 1 j]
          exact hv⟩
        have HSL := Lib.hid hsl
        have hM1 : 1 ≤ M := by omega
        clear hsl hM0
        have hgn := Lib.hid (HS.out.2.2.mono (B := w.heap.size) HS.out.2.2.sz HP.out.bel)
        have hwl := Lib.hid (fun x (h : x ∈ argsW l) => Nat.le_trans (fields_wlen (List.mem_of_mem_tail h)) hl1 : ∀ x ∈ argsW l, x.length ≤ 1048576)
        clear zf
        go_upto_region 10 with (go_at_call 42; go_loud (refine (numbers_anyM _ _ M (argsW l) _ HF.out.2.1 HSL.out (by have := HF.out.2.1; omega) hwl.out hgn.out).mono ?_; rintro e w4 ⟨hb, h⟩; have HP4 := Lib.hid (HP.out.below hb); clear hb; rcases h with ⟨hok, s1, cap1, rfl, ho⟩ | ⟨hok, rfl⟩))
        · rw [HF.out.2.1] at ho ⊢
          have HO := Lib.hid (And.intro hok ho)
          clear hok ho
          by_cases k2 : kd = 2
          · subst k2
            go_upto_region 13 with fail
            go_cut [66] from 38 to 65 (fun v66 wx => w4 = wx ∧ ((v66 = .bool true ∧ ¬ lineOk k part l) ∨ (v66 = .bool false ∧ lineOk k part l)))
            case first =>
              by_cases c1 : l.length ≤ 20
              · have e1 : decide ((20 : Int) < (l.length : Int)) = false := decide_eq_false (by omega)
                by_cases c2 : M = 2
                · have e2 : ((M : Int) == 2) = true := by rw [c2]; rfl
                  have en : ((M : Int) != 2) = false := by rw [c2]; rfl
                  have HC2 := Lib.hid c2
                  clear c2
                  by_cases k0 : k = 0
                  · have ek : ((k : Int) == 0) = true := by rw [k0]; rfl
                    have HK0 := Lib.hid k0
                    clear k0
                    go_wp2_with fail
                    all_goals
                      go_meet
                      exact ⟨rfl, .inl ⟨by first | rfl | (simp; omega), fun h => by have h1 := h.2.2.2.2.1; rw [← HKD.out] at h1; (try have := HK0.out); (try have := HKZ.out); omega⟩⟩
                  · have ek : ((k : Int) == 0) = false := beq_eq_false_iff_ne.2 (by omega)
                    by_cases c4 : part ≤ 2
                    · have e4 : decide ((2 : Int) < part) = false := decide_eq_false (by omega)
                      go_wp2_with fail
                      all_goals
                        go_meet
                        exact ⟨rfl, .inr ⟨by first | rfl | (simp; omega), ⟨c1, by rw [← HKD.out]; omega, HO.out.1, by rw [HF.out.2.1, ← HKD.out, HC2.out]; rw [wantK, if_pos rfl], by rw [← HKD.out]; (try have := HK0.out); (try have := HKZ.out); omega, by rw [← HKD.out]; exact c4⟩⟩⟩
                    · have e4 : decide ((2 : Int) < part) = true := decide_eq_true (by omega)
                      go_wp2_with fail
                      all_goals
                        go_meet
                        exact ⟨rfl, .inl ⟨by first | rfl | (simp; omega), fun h => by have h1 := h.2.2.2.2.2; rw [← HKD.out] at h1; omega⟩⟩
                · have e2 : ((M : Int) == 2) = false := beq_eq_false_iff_ne.2 (by omega)
                  go_wp2_with fail
                  all_goals
                    go_meet
                    exact ⟨rfl, .inl ⟨by first | rfl | (simp; omega), fun h => by have h1 := h.2.2.2.1; rw [HF.out.2.1, ← HKD.out, wantK, if_pos rfl] at h1; exact c2 h1⟩⟩
              · have e1 : decide ((20 : Int) < (l.length : Int)) = true := decide_eq_true (by omega)
                go_wp2_with fail
                all_goals
                  go_meet
                  exact ⟨rfl, .inl ⟨by first | rfl | (simp; omega), fun h => c1 h.1⟩⟩
            case rest =>
              obtain ⟨rfl, hc⟩ := hcut
              rcases hc with ⟨rfl, hno⟩ | ⟨rfl, hok⟩
              · have HNO := Lib.hid hno
                clear hno
                obtain ⟨rc, rf⟩ := blk_all HP4.out.res
                go_wp2_with fail
                all_goals exact pi_ret0 HP4.out.res HP4.out.bel (.inl ⟨k, part, c, l, HPR.out, HLK.out, HNO.out, rfl, rfl⟩) rfl rfl rfl
              · have c1 := hok.1
                have c2 : M = 2 := by have h1 := hok.2.2.2.1; rw [HF.out.2.1, ← HKD.out] at h1; exact h1
                have c3 := hok.2.2.2.2.1
                rw [← HKD.out] at c3
                have c4 := hok.2.2.2.2.2
                rw [← HKD.out] at c4
                have HOK := Lib.hid hok
                clear hok
                have c3 : ¬ k = 0 := fun h => by omega
                have hal : (argsL l).length = M := by unfold argsL; rw [List.length_map, HF.out.2.1]
                subst c2
                obtain ⟨a0, ha0⟩ : ∃ a0, (argsL l)[0]? = some a0 := get_of_lt (by rw [hal]; omega)
                obtain ⟨ab, ao, rfl, hab, z0⟩ := (own_sl HO.out.2).int (Below.refl _ _) ha0
                have hd0 : (argsL l).getD 0 0 = a0 := by rw [List.getD_eq_getElem?_getD, ha0]; rfl
                obtain ⟨a1, ha1⟩ : ∃ a1, (argsL l)[1]? = some a1 := get_of_lt (by rw [hal]; omega)
                obtain ⟨ab', ao', e', -, z1⟩ := (own_sl HO.out.2).int (Below.refl _ _) ha1
                cases e'
                have hd1 : (argsL l).getD 1 0 = a1 := by rw [List.getD_eq_getElem?_getD, ha1]; rfl
                have hadd : addP (kindL l) (argsL l) c = ⟨c.inp, c.next, c.gates ++ [⟨a0, a1⟩], c.outs⟩ := by rw [← HKD.out]; unfold addP; rw [hd0, hd1]; rfl
                have HADD := Lib.hid hadd
                have HA0 := Lib.hid (And.intro ha0 ha1)
                clear hal ha0 hd0 hadd ha1 hd1
                rw [Nat.add_zero] at z0
                have HZ : Hid (∀ W, Below w4.heap.size w4 W → W.cell? ⟨ab, ao, none⟩ = some (.int .i64 a0) ∧ W.cell? ⟨ab, ao + 1, none⟩ = some (.int .i64 a1)) := fun W hW => ⟨(hW.cell (p := ⟨ab, ao, none⟩) hab).trans z0, (hW.cell (p := ⟨ab, ao + 1, none⟩) hab).trans z1⟩
                clear z0 z1 hab
                go_upto_region 22 with fail
                refine wp_region_E (fun w' => (∀ o, w'.cell? ⟨w.heap.size + 2, o, none⟩ = #[Value.int .i64 c.inp, .slice sn c.next.length cn, .slice sg c.gates.length cg, .slice so c.outs.length co][o]?) ∧ w'.cell? ⟨ab, ao, none⟩ = some (.int .i64 a0) ∧ w'.cell? ⟨ab, ao + 1, none⟩ = some (.int .i64 a1)) 12 (.q 0 (.q 1 (.q 2 (.q 3 (.q 4 (.q 5 (.q 6 (.q 7 (.q 8 (.e 9 (.e 10 (.q 11 (.z 12))))))))))))) (by kernel_rfl) (by kernel_rfl) (by kernel_rfl) (by kernel_rfl) (by kernel_rfl) (by kernel_rfl) ⟨HP4.out.drew.cells.1, HZ.out _ (Below.refl _ _).drew⟩ ?_
                repeat (first | (refine orde_s (o := ?_) ?_ ?_ ?_; rotate_left 1; (focus ((simp only [List.getElem?_toArray, List.getElem?_cons_succ, List.getElem?_cons_zero]) <;> rfl)); (focus rfl); simp only [Act.put, List.setIfInBounds_toArray, List.set_cons_zero, List.set_cons_succ]) | (refine orde_q (o := ?_) (v := ?_) ?_ ?_ ?_ ?_; rotate_left 2; (focus ((simp only [List.getElem?_toArray, List.getElem?_cons_succ, List.getElem?_cons_zero]) <;> rfl)); (focus rfl); (focus (intro w' hS; (try dsimp only at hS); go_split_ands; go_simp; (try (with_reducible rfl)))); simp only [Act.put, List.setIfInBounds_toArray, List.set_cons_zero, List.set_cons_succ]))
                refine orde_e ?_
                (refine ope_e (o := ?_) ?_ ?_ (fun K hK => ?_); rotate_left 1; (focus ((simp only [List.getElem?_toArray, List.getElem?_cons_succ, List.getElem?_cons_zero]) <;> rfl)); (focus rfl); go_simp)
                have hA := (HP4.out.alloc (.cells #[.int .i64 a0, .int .i64 a1] 52)).drew
                have hs := (Sl.new w4 #[.int .i64 a0, .int .i64 a1] 52).drew
                have hbb : Below w4.heap.size w4 (w4.alloc (.cells #[.int .i64 a0, .int .i64 a1] 52)).drew := ((Below.refl w4.heap.size w4).alloc (Nat.le_refl _) _).drew
                revert hA hs hbb
                generalize (w4.alloc (.cells #[.int .i64 a0, .int .i64 a1] 52)).drew = W5
                intro hA hs hbb
                refine hK.out _ _ ⟨hA.cells.1, HZ.out _ hbb⟩ ?_
                clear hK K
                have HA := Lib.hid (And.intro hA (And.intro hs hbb))
                clear hA hs hbb
                (try simp only [Act.put, List.setIfInBounds_toArray, List.set_cons_zero, List.set_cons_succ])
                refine orde_e ?_
                (refine ope_e (o := ?_) ?_ ?_ (fun K hK => ?_); rotate_left 1; (focus ((simp only [List.getElem?_toArray, List.getElem?_cons_succ, List.getElem?_cons_zero]) <;> rfl)); (focus rfl))
                refine wp_app (.tmp 91) (.tmp 99) rfl elem_gate HA.out.1.out.g rfl rfl (by simp) HA.out.2.1 (by simp [Value.oneCell']) (c.gates.length + 1) rfl (gcells (c.gates ++ [⟨a0, a1⟩])) (by rw [← gcells_append]; rfl) (by unfold maxLen; omega) (by omega) HA.out.1.sz ?_
                intro s6 c6 W6 h6 hb6 hg6 hob6
                obtain ⟨hB6, hO6⟩ := HA.out.1.out.pushG hg6 (xg' := c.gates ++ [⟨a0, a1⟩]) (by rw [List.length_append]; exact h6)
                obtain ⟨ab2, ao2, e2, -, z6⟩ := (own_sl (nums_keep HP.out.out.g HO.out.2 HA.out.2.2 hg6)).int (Below.refl _ _) HA0.out.1
                cases e2
                rw [Nat.add_zero] at z6
                obtain ⟨ab3, ao3, e3', -, z7⟩ := (own_sl (nums_keep HP.out.out.g HO.out.2 HA.out.2.2 hg6)).int (Below.refl _ _) HA0.out.2
                cases e3'
                have hpn : PcI w ⟨c.inp, c.next, c.gates ++ [⟨a0, a1⟩], c.outs⟩ (.slice sn c.next.length cn) (.slice s6 (c.gates.length + 1) c6) (.slice so c.outs.length co) (W6.setCell ⟨w.heap.size + 2, 2, none⟩ (.slice s6 (c.gates.length + 1) c6)) := HA.out.1.upd hb6 hO6
                refine hK.out _ _ ⟨(blk_all hB6).1, ⟨z6, z7⟩⟩ ?_
                clear hK K
                have y1 : W6.cell? ⟨w.heap.size + 2, 2, none⟩ = some (.slice sg c.gates.length cg) := blk_cell hB6
                have y2 : W6.frozen? ⟨w.heap.size + 2, 2, none⟩ = false := blk_free hB6
                have HPN := Lib.hid hpn
                clear hpn hB6 hO6 h6 hb6 hg6 hob6 z6 z7
                (try simp only [Act.put, List.setIfInBounds_toArray, List.set_cons_zero, List.set_cons_succ])
                repeat (first | (refine orde_s (o := ?_) ?_ ?_ ?_; rotate_left 1; (focus ((simp only [List.getElem?_toArray, List.getElem?_cons_succ, List.getElem?_cons_zero]) <;> rfl)); (focus rfl); simp only [Act.put, List.setIfInBounds_toArray, List.set_cons_zero, List.set_cons_succ]) | (refine orde_q (o := ?_) (v := ?_) ?_ ?_ ?_ ?_; rotate_left 2; (focus ((simp only [List.getElem?_toArray, List.getElem?_cons_succ, List.getElem?_cons_zero]) <;> rfl)); (focus rfl); (focus (intro w' hS; (try dsimp only at hS); go_split_ands; go_simp; (try (with_reducible rfl)))); simp only [Act.put, List.setIfInBounds_toArray, List.set_cons_zero, List.set_cons_succ]))
                (refine orde_z (o := ?_) ?_ ?_ (fun K hK => ?_); rotate_left 1; (focus ((simp only [List.getElem?_toArray, List.getElem?_cons_succ, List.getElem?_cons_zero]) <;> rfl)); (focus rfl); go_simp)
                refine hK.out _ _ ?_
                clear hK K y1 y2
                go_wp2_with fail
                go_roundw
                case rel => exact ⟨k + 1, 2, ⟨c.inp, c.next, c.gates ++ [⟨a0, a1⟩], c.outs⟩, sn, s6, so, cn, c6, co, by omega, by go_num, rfl, by have h := Pr.step HPR.out HLK.out HOK.out; rw [HADD.out, ← HKD.out] at h; exact h, by have h := HPN.out; simpa [List.length_append] using h⟩
                case measure => simp [intOf]; omega
          · have e2k : (kd == 2) = false := beq_eq_false_iff_ne.2 k2
            go_upto_region 13 with fail
            go_cut [66] from 38 to 65 (fun v66 wx => w4 = wx ∧ ((v66 = .bool true ∧ ¬ lineOk k part l) ∨ (v66 = .bool false ∧ lineOk k part l)))
            case first =>
              by_cases c1 : l.length ≤ 20
              · have e1 : decide ((20 : Int) < (l.length : Int)) = false := decide_eq_false (by omega)
                by_cases cB : 0 ≤ kd
                · have eB : decide (kd < 0) = false := decide_eq_false (by omega)
                  by_cases c2 : M = 1
                  · have e2 : ((M : Int) == 1) = true := by rw [c2]; rfl
                    have en : ((M : Int) != 1) = false := by rw [c2]; rfl
                    have HC2 := Lib.hid c2
                    clear c2
                    by_cases kz : kd = 0
                    · have ez : (kd == 0) = true := by rw [kz]; rfl
                      have HKZ := Lib.hid kz
                      clear kz
                      by_cases k0 : k = 0
                      · have ek : ((k : Int) == 0) = true := by rw [k0]; rfl
                        have HK0 := Lib.hid k0
                        clear k0
                        by_cases c4 : part ≤ kd
                        · have e4 : decide ((kd : Int) < part) = false := decide_eq_false (by omega)
                          go_wp2_with fail
                          all_goals
                            go_meet
                            exact ⟨rfl, .inr ⟨by first | rfl | (simp; omega), ⟨c1, by rw [← HKD.out]; omega, HO.out.1, by rw [HF.out.2.1, ← HKD.out, HC2.out]; rw [wantK, if_neg k2], by rw [← HKD.out]; (try have := HK0.out); (try have := HKZ.out); omega, by rw [← HKD.out]; exact c4⟩⟩⟩
                        · have e4 : decide ((kd : Int) < part) = true := decide_eq_true (by omega)
                          go_wp2_with fail
                          all_goals
                            go_meet
                            exact ⟨rfl, .inl ⟨by first | rfl | (simp; omega), fun h => by have h1 := h.2.2.2.2.2; rw [← HKD.out] at h1; omega⟩⟩
                      · have ek : ((k : Int) == 0) = false := beq_eq_false_iff_ne.2 (by omega)
                        go_wp2_with fail
                        all_goals
                          go_meet
                          exact ⟨rfl, .inl ⟨by first | rfl | (simp; omega), fun h => by have h1 := h.2.2.2.2.1; rw [← HKD.out] at h1; (try have := HK0.out); (try have := HKZ.out); omega⟩⟩
                    · have ez : (kd == 0) = false := beq_eq_false_iff_ne.2 kz
                      by_cases k0 : k = 0
                      · have ek : ((k : Int) == 0) = true := by rw [k0]; rfl
                        have HK0 := Lib.hid k0
                        clear k0
                        go_wp2_with fail
                        all_goals
                          go_meet
                          exact ⟨rfl, .inl ⟨by first | rfl | (simp; omega), fun h => by have h1 := h.2.2.2.2.1; rw [← HKD.out] at h1; (try have := HK0.out); (try have := HKZ.out); omega⟩⟩
                      · have ek : ((k : Int) == 0) = false := beq_eq_false_iff_ne.2 (by omega)
                        by_cases c4 : part ≤ kd
                        · have e4 : decide ((kd : Int) < part) = false := decide_eq_false (by omega)
                          go_wp2_with fail
                          all_goals
                            go_meet
                            exact ⟨rfl, .inr ⟨by first | rfl | (simp; omega), ⟨c1, by rw [← HKD.out]; omega, HO.out.1, by rw [HF.out.2.1, ← HKD.out, HC2.out]; rw [wantK, if_neg k2], by rw [← HKD.out]; (try have := HK0.out); (try have := HKZ.out); omega, by rw [← HKD.out]; exact c4⟩⟩⟩
                        · have e4 : decide ((kd : Int) < part) = true := decide_eq_true (by omega)
                          go_wp2_with fail
                          all_goals
                            go_meet
                            exact ⟨rfl, .inl ⟨by first | rfl | (simp; omega), fun h => by have h1 := h.2.2.2.2.2; rw [← HKD.out] at h1; omega⟩⟩
                  · have e2 : ((M : Int) == 1) = false := beq_eq_false_iff_ne.2 (by omega)
                    go_wp2_with fail
                    all_goals
                      go_meet
                      exact ⟨rfl, .inl ⟨by first | rfl | (simp; omega), fun h => by have h1 := h.2.2.2.1; rw [HF.out.2.1, ← HKD.out, wantK, if_neg k2] at h1; exact c2 h1⟩⟩
                · have eB : decide (kd < 0) = true := decide_eq_true (by omega)
                  go_wp2_with fail
                  all_goals
                    go_meet
                    exact ⟨rfl, .inl ⟨by first | rfl | (simp; omega), fun h => by have h1 := h.2.1; rw [← HKD.out] at h1; omega⟩⟩
              · have e1 : decide ((20 : Int) < (l.length : Int)) = true := decide_eq_true (by omega)
                go_wp2_with fail
                all_goals
                  go_meet
                  exact ⟨rfl, .inl ⟨by first | rfl | (simp; omega), fun h => c1 h.1⟩⟩
            case rest =>
              obtain ⟨rfl, hc⟩ := hcut
              rcases hc with ⟨rfl, hno⟩ | ⟨rfl, hok⟩
              · have HNO := Lib.hid hno
                clear hno
                obtain ⟨rc, rf⟩ := blk_all HP4.out.res
                go_wp2_with fail
                all_goals exact pi_ret0 HP4.out.res HP4.out.bel (.inl ⟨k, part, c, l, HPR.out, HLK.out, HNO.out, rfl, rfl⟩) rfl rfl rfl
              · rcases hkc with rfl | rfl | rfl | rfl | rfl
                · exact absurd hok.2.1 (by rw [← HKD.out]; decide)
                · have c1 := hok.1
                  have c2 : M = 1 := by have h1 := hok.2.2.2.1; rw [HF.out.2.1, ← HKD.out] at h1; exact h1
                  have c3 := hok.2.2.2.2.1
                  rw [← HKD.out] at c3
                  have c4 := hok.2.2.2.2.2
                  rw [← HKD.out] at c4
                  have HOK := Lib.hid hok
                  clear hok
                  have c3 : k = 0 := c3.1 rfl
                  have hal : (argsL l).length = M := by unfold argsL; rw [List.length_map, HF.out.2.1]
                  subst c2
                  obtain ⟨a0, ha0⟩ : ∃ a0, (argsL l)[0]? = some a0 := get_of_lt (by rw [hal]; omega)
                  obtain ⟨ab, ao, rfl, hab, z0⟩ := (own_sl HO.out.2).int (Below.refl _ _) ha0
                  have hd0 : (argsL l).getD 0 0 = a0 := by rw [List.getD_eq_getElem?_getD, ha0]; rfl
                  have hadd : addP (kindL l) (argsL l) c = ⟨a0, c.next, c.gates, c.outs⟩ := by rw [← HKD.out]; unfold addP; rw [hd0]; rfl
                  have HADD := Lib.hid hadd
                  have HA0 := Lib.hid ha0
                  clear hal ha0 hd0 hadd
                  rw [Nat.add_zero] at z0
                  obtain ⟨cb, cf⟩ := HP4.out.cells
                  go_upto_region 25 with fail
                  have hpn : PcI w ⟨a0, c.next, c.gates, c.outs⟩ (.slice sn c.next.length cn) (.slice sg c.gates.length cg) (.slice so c.outs.length co) (w4.setCell ⟨w.heap.size + 2, 0, none⟩ (.int .i64 a0)) :=
                    HP4.out.upd (Below.refl _ _) ⟨by simpa using blk_set (o := 0) (v := .int .i64 a0) HP4.out.out.blk, own_set_ne HP4.out.out.n (own_tyb HP4.out.out.n HP4.out.out.blk (by decide)) _, own_set_ne HP4.out.out.g (own_tyb HP4.out.out.g HP4.out.out.blk (by decide)) _, own_set_ne HP4.out.out.o (own_tyb HP4.out.out.o HP4.out.out.blk (by decide)) _, HP4.out.out.ne⟩
                  have HPN := Lib.hid hpn
                  clear hpn cb cf
                  go_wp2_with fail
                  go_roundw
                  case rel => exact ⟨k + 1, 0, ⟨a0, c.next, c.gates, c.outs⟩, sn, sg, so, cn, cg, co, by omega, by go_num, rfl, by have h := Pr.step HPR.out HLK.out HOK.out; rw [HADD.out, ← HKD.out] at h; exact h, HPN.out⟩
                  case measure => simp [intOf]; omega
                · have c1 := hok.1
                  have c2 : M = 1 := by have h1 := hok.2.2.2.1; rw [HF.out.2.1, ← HKD.out] at h1; exact h1
                  have c3 := hok.2.2.2.2.1
                  rw [← HKD.out] at c3
                  have c4 := hok.2.2.2.2.2
                  rw [← HKD.out] at c4
                  have HOK := Lib.hid hok
                  clear hok
                  have c3 : ¬ k = 0 := fun h => by omega
                  have hal : (argsL l).length = M := by unfold argsL; rw [List.length_map, HF.out.2.1]
                  subst c2
                  obtain ⟨a0, ha0⟩ : ∃ a0, (argsL l)[0]? = some a0 := get_of_lt (by rw [hal]; omega)
                  obtain ⟨ab, ao, rfl, hab, z0⟩ := (own_sl HO.out.2).int (Below.refl _ _) ha0
                  have hd0 : (argsL l).getD 0 0 = a0 := by rw [List.getD_eq_getElem?_getD, ha0]; rfl
                  have hadd : addP (kindL l) (argsL l) c = ⟨c.inp, c.next ++ [a0], c.gates, c.outs⟩ := by rw [← HKD.out]; unfold addP; rw [hd0]; rfl
                  have HADD := Lib.hid hadd
                  have HA0 := Lib.hid ha0
                  clear hal ha0 hd0 hadd
                  rw [Nat.add_zero] at z0
                  have HZ : Hid (∀ W, Below w4.heap.size w4 W → W.cell? ⟨ab, ao, none⟩ = some (.int .i64 a0)) := fun W hW => (hW.cell (p := ⟨ab, ao, none⟩) hab).trans z0
                  clear z0 hab
                  go_upto_region 20 with fail
                  refine wp_region_E (fun w' => (∀ o, w'.cell? ⟨w.heap.size + 2, o, none⟩ = #[Value.int .i64 c.inp, .slice sn c.next.length cn, .slice sg c.gates.length cg, .slice so c.outs.length co][o]?) ∧ w'.cell? ⟨ab, ao, none⟩ = some (.int .i64 a0)) 8 (.q 0 (.q 1 (.q 2 (.q 3 (.q 4 (.e 5 (.e 6 (.q 7 (.z 8))))))))) (by kernel_rfl) (by kernel_rfl) (by kernel_rfl) (by kernel_rfl) (by kernel_rfl) (by kernel_rfl) ⟨HP4.out.drew.cells.1, HZ.out _ (Below.refl _ _).drew⟩ ?_
                  repeat (first | (refine orde_s (o := ?_) ?_ ?_ ?_; rotate_left 1; (focus ((simp only [List.getElem?_toArray, List.getElem?_cons_succ, List.getElem?_cons_zero]) <;> rfl)); (focus rfl); simp only [Act.put, List.setIfInBounds_toArray, List.set_cons_zero, List.set_cons_succ]) | (refine orde_q (o := ?_) (v := ?_) ?_ ?_ ?_ ?_; rotate_left 2; (focus ((simp only [List.getElem?_toArray, List.getElem?_cons_succ, List.getElem?_cons_zero]) <;> rfl)); (focus rfl); (focus (intro w' hS; (try dsimp only at hS); go_split_ands; go_simp; (try (with_reducible rfl)))); simp only [Act.put, List.setIfInBounds_toArray, List.set_cons_zero, List.set_cons_succ]))
                  refine orde_e ?_
                  (refine ope_e (o := ?_) ?_ ?_ (fun K hK => ?_); rotate_left 1; (focus ((simp only [List.getElem?_toArray, List.getElem?_cons_succ, List.getElem?_cons_zero]) <;> rfl)); (focus rfl); go_simp)
                  have hA := (HP4.out.alloc (.cells #[.int .i64 a0] 3)).drew
                  have hs := (Sl.new w4 #[.int .i64 a0] 3).drew
                  have hbb : Below w4.heap.size w4 (w4.alloc (.cells #[.int .i64 a0] 3)).drew := ((Below.refl w4.heap.size w4).alloc (Nat.le_refl _) _).drew
                  revert hA hs hbb
                  generalize (w4.alloc (.cells #[.int .i64 a0] 3)).drew = W5
                  intro hA hs hbb
                  refine hK.out _ _ ⟨hA.cells.1, HZ.out _ hbb⟩ ?_
                  clear hK K
                  have HA := Lib.hid (And.intro hA (And.intro hs hbb))
                  clear hA hs hbb
                  (try simp only [Act.put, List.setIfInBounds_toArray, List.set_cons_zero, List.set_cons_succ])
                  refine orde_e ?_
                  (refine ope_e (o := ?_) ?_ ?_ (fun K hK => ?_); rotate_left 1; (focus ((simp only [List.getElem?_toArray, List.getElem?_cons_succ, List.getElem?_cons_zero]) <;> rfl)); (focus rfl))
                  refine wp_app (.tmp 81) (.tmp 85) rfl elem_int HA.out.1.out.n rfl rfl (by simp) HA.out.2.1 (by simp [Value.oneCell']) (c.next.length + 1) rfl (ints (c.next ++ [a0])) (by rw [← ints_append]; rfl) (by unfold maxLen; omega) (by omega) HA.out.1.sz ?_
                  intro s6 c6 W6 h6 hb6 hg6 hob6
                  obtain ⟨hB6, hO6⟩ := HA.out.1.out.pushN hg6 (xn' := c.next ++ [a0]) (by rw [List.length_append]; exact h6) hob6
                  obtain ⟨ab2, ao2, e2, -, z6⟩ := (own_sl (nums_keep HP.out.out.n HO.out.2 HA.out.2.2 hg6)).int (Below.refl _ _) HA0.out
                  cases e2
                  rw [Nat.add_zero] at z6
                  have hpn : PcI w ⟨c.inp, c.next ++ [a0], c.gates, c.outs⟩ (.slice s6 (c.next.length + 1) c6) (.slice sg c.gates.length cg) (.slice so c.outs.length co) (W6.setCell ⟨w.heap.size + 2, 1, none⟩ (.slice s6 (c.next.length + 1) c6)) := HA.out.1.upd hb6 hO6
                  refine hK.out _ _ ⟨(blk_all hB6).1, z6⟩ ?_
                  clear hK K
                  have y1 : W6.cell? ⟨w.heap.size + 2, 1, none⟩ = some (.slice sn c.next.length cn) := blk_cell hB6
                  have y2 : W6.frozen? ⟨w.heap.size + 2, 1, none⟩ = false := blk_free hB6
                  have HPN := Lib.hid hpn
                  clear hpn hB6 hO6 h6 hb6 hg6 hob6 z6
                  (try simp only [Act.put, List.setIfInBounds_toArray, List.set_cons_zero, List.set_cons_succ])
                  repeat (first | (refine orde_s (o := ?_) ?_ ?_ ?_; rotate_left 1; (focus ((simp only [List.getElem?_toArray, List.getElem?_cons_succ, List.getElem?_cons_zero]) <;> rfl)); (focus rfl); simp only [Act.put, List.setIfInBounds_toArray, List.set_cons_zero, List.set_cons_succ]) | (refine orde_q (o := ?_) (v := ?_) ?_ ?_ ?_ ?_; rotate_left 2; (focus ((simp only [List.getElem?_toArray, List.getElem?_cons_succ, List.getElem?_cons_zero]) <;> rfl)); (focus rfl); (focus (intro w' hS; (try dsimp only at hS); go_split_ands; go_simp; (try (with_reducible rfl)))); simp only [Act.put, List.setIfInBounds_toArray, List.set_cons_zero, List.set_cons_succ]))
                  (refine orde_z (o := ?_) ?_ ?_ (fun K hK => ?_); rotate_left 1; (focus ((simp only [List.getElem?_toArray, List.getElem?_cons_succ, List.getElem?_cons_zero]) <;> rfl)); (focus rfl); go_simp)
                  refine hK.out _ _ ?_
                  clear hK K y1 y2
                  go_wp2_with fail
                  go_roundw
                  case rel => exact ⟨k + 1, 1, ⟨c.inp, c.next ++ [a0], c.gates, c.outs⟩, s6, sg, so, c6, cg, co, by omega, by go_num, rfl, by have h := Pr.step HPR.out HLK.out HOK.out; rw [HADD.out, ← HKD.out] at h; exact h, by have h := HPN.out; simpa [List.length_append] using h⟩
                  case measure => simp [intOf]; omega
                · exact absurd rfl k2
                · have c1 := hok.1
                  have c2 : M = 1 := by have h1 := hok.2.2.2.1; rw [HF.out.2.1, ← HKD.out] at h1; exact h1
                  have c3 := hok.2.2.2.2.1
                  rw [← HKD.out] at c3
                  have c4 := hok.2.2.2.2.2
                  rw [← HKD.out] at c4
                  have HOK := Lib.hid hok
                  clear hok
                  have c3 : ¬ k = 0 := fun h => by omega
                  have hal : (argsL l).length = M := by unfold argsL; rw [List.length_map, HF.out.2.1]
                  subst c2
                  obtain ⟨a0, ha0⟩ : ∃ a0, (argsL l)[0]? = some a0 := get_of_lt (by rw [hal]; omega)
                  obtain ⟨ab, ao, rfl, hab, z0⟩ := (own_sl HO.out.2).int (Below.refl _ _) ha0
                  have hd0 : (argsL l).getD 0 0 = a0 := by rw [List.getD_eq_getElem?_getD, ha0]; rfl
                  have hadd : addP (kindL l) (argsL l) c = ⟨c.inp, c.next, c.gates, c.outs ++ [a0]⟩ := by rw [← HKD.out]; unfold addP; rw [hd0]; rfl
                  have HADD := Lib.hid hadd
                  have HA0 := Lib.hid ha0
                  clear hal ha0 hd0 hadd
                  rw [Nat.add_zero] at z0
                  have HZ : Hid (∀ W, Below w4.heap.size w4 W → W.cell? ⟨ab, ao, none⟩ = some (.int .i64 a0)) := fun W hW => (hW.cell (p := ⟨ab, ao, none⟩) hab).trans z0
                  clear z0 hab
                  go_upto_region 24 with fail
                  refine wp_region_E (fun w' => (∀ o, w'.cell? ⟨w.heap.size + 2, o, none⟩ = #[Value.int .i64 c.inp, .slice sn c.next.length cn, .slice sg c.gates.length cg, .slice so c.outs.length co][o]?) ∧ w'.cell? ⟨ab, ao, none⟩ = some (.int .i64 a0)) 8 (.q 0 (.q 1 (.q 2 (.q 3 (.q 4 (.e 5 (.e 6 (.q 7 (.z 8))))))))) (by kernel_rfl) (by kernel_rfl) (by kernel_rfl) (by kernel_rfl) (by kernel_rfl) (by kernel_rfl) ⟨HP4.out.drew.cells.1, HZ.out _ (Below.refl _ _).drew⟩ ?_
                  repeat (first | (refine orde_s (o := ?_) ?_ ?_ ?_; rotate_left 1; (focus ((simp only [List.getElem?_toArray, List.getElem?_cons_succ, List.getElem?_cons_zero]) <;> rfl)); (focus rfl); simp only [Act.put, List.setIfInBounds_toArray, List.set_cons_zero, List.set_cons_succ]) | (refine orde_q (o := ?_) (v := ?_) ?_ ?_ ?_ ?_; rotate_left 2; (focus ((simp only [List.getElem?_toArray, List.getElem?_cons_succ, List.getElem?_cons_zero]) <;> rfl)); (focus rfl); (focus (intro w' hS; (try dsimp only at hS); go_split_ands; go_simp; (try (with_reducible rfl)))); simp only [Act.put, List.setIfInBounds_toArray, List.set_cons_zero, List.set_cons_succ]))
                  refine orde_e ?_
                  (refine ope_e (o := ?_) ?_ ?_ (fun K hK => ?_); rotate_left 1; (focus ((simp only [List.getElem?_toArray, List.getElem?_cons_succ, List.getElem?_cons_zero]) <;> rfl)); (focus rfl); go_simp)
                  have hA := (HP4.out.alloc (.cells #[.int .i64 a0] 3)).drew
                  have hs := (Sl.new w4 #[.int .i64 a0] 3).drew
                  have hbb : Below w4.heap.size w4 (w4.alloc (.cells #[.int .i64 a0] 3)).drew := ((Below.refl w4.heap.size w4).alloc (Nat.le_refl _) _).drew
                  revert hA hs hbb
                  generalize (w4.alloc (.cells #[.int .i64 a0] 3)).drew = W5
                  intro hA hs hbb
                  refine hK.out _ _ ⟨hA.cells.1, HZ.out _ hbb⟩ ?_
                  clear hK K
                  have HA := Lib.hid (And.intro hA (And.intro hs hbb))
                  clear hA hs hbb
                  (try simp only [Act.put, List.setIfInBounds_toArray, List.set_cons_zero, List.set_cons_succ])
                  refine orde_e ?_
                  (refine ope_e (o := ?_) ?_ ?_ (fun K hK => ?_); rotate_left 1; (focus ((simp only [List.getElem?_toArray, List.getElem?_cons_succ, List.getElem?_cons_zero]) <;> rfl)); (focus rfl))
                  refine wp_app (.tmp 105) (.tmp 109) rfl elem_int HA.out.1.out.o rfl rfl (by simp) HA.out.2.1 (by simp [Value.oneCell']) (c.outs.length + 1) rfl (ints (c.outs ++ [a0])) (by rw [← ints_append]; rfl) (by unfold maxLen; omega) (by omega) HA.out.1.sz ?_
                  intro s6 c6 W6 h6 hb6 hg6 hob6
                  obtain ⟨hB6, hO6⟩ := HA.out.1.out.pushO hg6 (xo' := c.outs ++ [a0]) (by rw [List.length_append]; exact h6) hob6
                  obtain ⟨ab2, ao2, e2, -, z6⟩ := (own_sl (nums_keep HP.out.out.o HO.out.2 HA.out.2.2 hg6)).int (Below.refl _ _) HA0.out
                  cases e2
                  rw [Nat.add_zero] at z6
                  have hpn : PcI w ⟨c.inp, c.next, c.gates, c.outs ++ [a0]⟩ (.slice sn c.next.length cn) (.slice sg c.gates.length cg) (.slice s6 (c.outs.length + 1) c6) (W6.setCell ⟨w.heap.size + 2, 3, none⟩ (.slice s6 (c.outs.length + 1) c6)) := HA.out.1.upd hb6 hO6
                  refine hK.out _ _ ⟨(blk_all hB6).1, z6⟩ ?_
                  clear hK K
                  have y1 : W6.cell? ⟨w.heap.size + 2, 3, none⟩ = some (.slice so c.outs.length co) := blk_cell hB6
                  have y2 : W6.frozen? ⟨w.heap.size + 2, 3, none⟩ = false := blk_free hB6
                  have HPN := Lib.hid hpn
                  clear hpn hB6 hO6 h6 hb6 hg6 hob6 z6
                  (try simp only [Act.put, List.setIfInBounds_toArray, List.set_cons_zero, List.set_cons_succ])
                  repeat (first | (refine orde_s (o := ?_) ?_ ?_ ?_; rotate_left 1; (focus ((simp only [List.getElem?_toArray, List.getElem?_cons_succ, List.getElem?_cons_zero]) <;> rfl)); (focus rfl); simp only [Act.put, List.setIfInBounds_toArray, List.set_cons_zero, List.set_cons_succ]) | (refine orde_q (o := ?_) (v := ?_) ?_ ?_ ?_ ?_; rotate_left 2; (focus ((simp only [List.getElem?_toArray, List.getElem?_cons_succ, List.getElem?_cons_zero]) <;> rfl)); (focus rfl); (focus (intro w' hS; (try dsimp only at hS); go_split_ands; go_simp; (try (with_reducible rfl)))); simp only [Act.put, List.setIfInBounds_toArray, List.set_cons_zero, List.set_cons_succ]))
                  (refine orde_z (o := ?_) ?_ ?_ (fun K hK => ?_); rotate_left 1; (focus ((simp only [List.getElem?_toArray, List.getElem?_cons_succ, List.getElem?_cons_zero]) <;> rfl)); (focus rfl); go_simp)
                  refine hK.out _ _ ?_
                  clear hK K y1 y2
                  go_wp2_with fail
                  go_roundw
                  case rel => exact ⟨k + 1, 3, ⟨c.inp, c.next, c.gates, c.outs ++ [a0]⟩, sn, sg, s6, cn, cg, c6, by omega, by go_num, rfl, by have h := Pr.step HPR.out HLK.out HOK.out; rw [HADD.out, ← HKD.out] at h; exact h, by have h := HPN.out; simpa [List.length_append] using h⟩
                  case measure => simp [intOf]; omega
        · have HNO := Lib.hid (show ¬ lineOk k part l from fun h => by have h1 := h.2.2.1; rw [hok] at h1; cases h1)
          obtain ⟨rc, rf⟩ := blk_all HP4.out.res
          go_wp2_with fail
          all_goals exact pi_ret0 HP4.out.res HP4.out.bel (.inl ⟨k, part, c, l, HPR.out, HLK.out, HNO.out, rfl, rfl⟩) rfl rfl rfl
    · obtain rfl : k = ls.length := by omega
      by_cases hz : ls.length = 0
      · have e0 : ((ls.length : Int) == 0) = true := by rw [hz]; rfl
        obtain ⟨rc, rf⟩ := blk_all HP.out.res
        go_wp2_with fail
        all_goals exact pi_ret0 HP.out.res HP.out.bel (.inr ⟨part, c, HPR.out, .inl ⟨.inl hz, rfl, rfl⟩⟩) rfl (by rw [hz]; rfl) rfl
      · have e0 : ((ls.length : Int) == 0) = false := beq_eq_false_iff_ne.2 (by omega)
        have hown : CirOwn wr (w.heap.size + 3) c (.slice sn c.next.length cn) (.slice sg c.gates.length cg) (.slice so c.outs.length co) := ⟨HP.out.out.n, HP.out.out.g, HP.out.out.o, HP.out.out.ne, by omega, by omega, by omega⟩
        have HOW := Lib.hid hown
        clear hown
        obtain ⟨cb, cf⟩ := HP.out.cells
        cases hv : c.validB
        · have HV := Lib.hid hv
          clear hv
          go_upto_region 27 with (go_at_call 24; ((with_reducible refine (CircuitValid_i _ c _ (own_cv HOW.out)).mono ?_); rintro e w1 ⟨rfl, hq⟩; rw [HV.out]; have HP1 := Lib.hid (HP.out.below hq); clear hq cb cf; obtain ⟨rc, rf⟩ := blk_all HP1.out.res))
          go_wp2_with fail
          all_goals exact pi_ret0 HP1.out.res HP1.out.bel (.inr ⟨part, c, HPR.out, .inl ⟨.inr HV.out, rfl, rfl⟩⟩) rfl rfl rfl
        · have HV := Lib.hid hv
          clear hv
          go_upto_region 28 with (go_at_call 24; ((with_reducible refine (CircuitValid_i _ c _ (own_cv HOW.out)).mono ?_); rintro e w1 ⟨rfl, hq⟩; rw [HV.out]; have HP1 := Lib.hid (HP.out.below hq); have HOW1 := Lib.hid (own_cbelow HOW.out hq); clear hq cb cf; obtain ⟨rc, rf⟩ := blk_all HP1.out.res; obtain ⟨cb, cf⟩ := HP1.out.cells))
          go_wp2_with fail
          all_goals exact pi_ret HP1.out.res HP1.out.bel HOW1.out (by omega) (.inr ⟨part, c, HPR.out, .inr ⟨by omega, HV.out, rfl, rfl⟩⟩) rfl rfl rfl

end Go.Proofs.YtnifgamlmaembaaDoor
