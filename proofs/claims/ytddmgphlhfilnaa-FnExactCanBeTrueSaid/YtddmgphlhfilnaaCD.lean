import Derived.Test.YtddmgphlhfilnaaCA
import Derived.Test.YtddmgphlhfilnaaQ1
namespace Go.Proofs.Ytddmgphlhfilnaa
set_option linter.unusedVariables false
set_option linter.unusedSimpArgs false
open Go.RowKit

/-! Satisfy of the reference. -/

theorem litV_pos {vs : List Int} {q : Nat} {x : Int} (hx : vs[q]? = some x) : litV vs (q : Int) = x := by
  unfold litV
  rw [if_neg (by omega), Int.toNat_natCast, List.getD_eq_getElem?_getD, hx]; rfl
theorem litV_neg {vs : List Int} {q : Nat} {x : Int} (h0 : 0 < (q : Int)) (hx : vs[q]? = some x) : litV vs (-(q : Int)) = -x := by
  unfold litV
  rw [if_pos (by omega), Int.neg_neg, Int.toNat_natCast, List.getD_eq_getElem?_getD, hx]; rfl
theorem WV.mem {vs : List Int} (h : WV vs) {q : Nat} {x : Int} (hx : vs[q]? = some x) : -1 ≤ x ∧ x ≤ 1 := by
  have := h.tri q
  rw [List.getD_eq_getElem?_getD, hx] at this
  simp at this; omega

theorem l15Value_any (s : Option Addr) (vs : List Int) (cap : Nat) (n : Int) (w : World) (h : Sl w s (ints vs)) (hv : WV vs) (hn : lit25 n) :
    Calls Try.prog 112 #[.slice s 26 cap, .int .i64 n] w fun e w' => e = .returned (.int .i64 (litV vs n)) ∧ w = w' := by
  obtain ⟨q, q1, q2, q3⟩ := setL_var hn
  obtain ⟨x, hx⟩ := get_of_lt (l := vs) (k := q) (by rw [hv.len]; exact q2)
  obtain ⟨x1, x2⟩ := hv.mem hx
  obtain ⟨b, off, rfl, hbw, hz⟩ := h.int (Below.refl _ _) hx
  have H := Lib.hid (And.intro hx hv)
  clear hx hv h hn
  rcases q3 with ⟨q3, rfl⟩ | ⟨q3, rfl⟩
  · rw [litV_neg (by omega) H.out.1]
    go_enter Try.func112, Try.ntmps112
    go_wp2
    go_ret
    exact ⟨rfl, rfl⟩
  · rw [litV_pos H.out.1]
    go_enter Try.func112, Try.ntmps112
    go_wp2
    go_ret
    exact ⟨rfl, rfl⟩

/-- What the first literals of a clause show: how many are open, and which. -/
def openP (vs c : List Int) (o : Nat) (u : Int) : Prop :=
  (o = 0 ∧ u = 0 ∧ ∀ n ∈ c, litV vs n = -1) ∨ (o = 1 ∧ u ∈ c ∧ litV vs u = 0 ∧ ∀ n ∈ c, n ≠ u → litV vs n = -1) ∨ (2 ≤ o ∧ ∃ n ∈ c, litV vs n = 0)
theorem openP_nil (vs : List Int) : openP vs [] 0 0 := .inl ⟨rfl, rfl, by simp⟩
theorem openP_false {vs c : List Int} {o : Nat} {u n : Int} {k : Nat} (h : openP vs (c.take k) o u) (hn : c[k]? = some n) (hv : litV vs n = -1) : openP vs (c.take (k + 1)) o u := by
  have e : c.take (k + 1) = c.take k ++ [n] := by rw [List.take_add_one, hn]; rfl
  rw [e]
  rcases h with ⟨h1, h2, h3⟩ | ⟨h1, h2, h3, h4⟩ | ⟨h1, m, h2, h3⟩
  · exact .inl ⟨h1, h2, fun m hm => by rcases List.mem_append.1 hm with hm | hm; exact h3 m hm; simp at hm; subst hm; exact hv⟩
  · exact .inr (.inl ⟨h1, List.mem_append_left _ h2, h3, fun m hm hne => by rcases List.mem_append.1 hm with hm | hm; exact h4 m hm hne; simp at hm; subst hm; exact hv⟩)
  · exact .inr (.inr ⟨h1, m, List.mem_append_left _ h2, h3⟩)
theorem openP_open {vs c : List Int} {o : Nat} {u n : Int} {k : Nat} (h : openP vs (c.take k) o u) (hn : c[k]? = some n) (hv : litV vs n = 0) : openP vs (c.take (k + 1)) (o + 1) n := by
  have e : c.take (k + 1) = c.take k ++ [n] := by rw [List.take_add_one, hn]; rfl
  rw [e]
  have hm : n ∈ c.take k ++ [n] := List.mem_append_right _ (by simp)
  rcases h with ⟨rfl, h2, h3⟩ | ⟨rfl, h2, h3, h4⟩ | ⟨h1, m, h2, h3⟩
  · exact .inr (.inl ⟨rfl, hm, hv, fun m hm hne => by rcases List.mem_append.1 hm with hm | hm; exact h3 m hm; simp at hm; exact absurd hm hne⟩)
  · exact .inr (.inr ⟨by omega, n, hm, hv⟩)
  · exact .inr (.inr ⟨by omega, n, hm, hv⟩)
/-- What a clause asks for. -/
def stP (vs c : List Int) (st u : Int) : Prop :=
  (st = 1 ∧ u = 0 ∧ ∃ n ∈ c, litV vs n = 1) ∨ (st = -1 ∧ u = 0 ∧ ∀ n ∈ c, litV vs n = -1) ∨ (st = 0 ∧ u = 0 ∧ ∃ n ∈ c, litV vs n = 0) ∨ (st = 0 ∧ u ∈ c ∧ litV vs u = 0 ∧ ∀ n ∈ c, n ≠ u → litV vs n = -1)
def StPost (vs c : List Int) (w : World) (e : Ending) (w' : World) : Prop := ∃ st u : Int, e = .returned (.tuple #[.int .i64 st, .int .i64 u]) ∧ stP vs c st u ∧ w = w'

set_option maxHeartbeats 1600000 in
theorem l15State_any (s sc : Option Addr) (vs c : List Int) (cap cc : Nat) (w : World) (h : Sl w s (ints vs)) (hv : WV vs) (hc : Sl w sc (ints c)) (h25 : ∀ n ∈ c, lit25 n) (hl : c.length ≤ 3) :
    Calls Try.prog 110 #[.slice s 26 cap, .slice sc c.length cc] w (StPost vs c w) := by
  have H : Hid (Sl w s (ints vs) ∧ WV vs ∧ Sl w sc (ints c) ∧ ∀ n ∈ c, lit25 n) := ⟨h, hv, hc, h25⟩
  clear h hv hc h25
  go_enter Try.func110, Try.ntmps110
  go_wp2_with fail
  go_loop [6, 7, 8] (fun v6 v7 v8 => ∃ (k o : Nat) (u : Int), k ≤ c.length ∧ o ≤ k ∧ v8 = .int .i64 k ∧ v6 = .int .i64 o ∧ v7 = .int .i64 u ∧ openP vs (c.take k) o u) (fun _ _ v8 => c.length - (intOf v8).toNat)
  case atStart => exact ⟨0, 0, 0, Nat.zero_le _, Nat.zero_le _, rfl, rfl, rfl, openP_nil _⟩
  case round =>
    obtain ⟨k, o, u, hk, ho, rfl, rfl, rfl, hp⟩ := hrel
    have HP := Lib.hid hp
    clear hp
    by_cases hlt : k < c.length
    · obtain ⟨n, hn⟩ := get_of_lt hlt
      have hn25 := H.out.2.2.2 n (List.mem_of_getElem? hn)
      obtain ⟨n0, n1, n2⟩ := id hn25
      obtain ⟨b, off, rfl, hbw, hz⟩ := H.out.2.2.1.int (Below.refl _ _) hn
      have htri := litV_tri H.out.2.1 n
      obtain ⟨x, hx⟩ : ∃ x, x = litV vs n := ⟨_, rfl⟩
      rw [← hx] at htri
      have HN := Lib.hid (And.intro hn (And.intro hx hn25))
      clear hn hx hn25 n0
      rcases htri with rfl | rfl | rfl
      · go_wp2_with (go_at_call 112; ((with_reducible refine (l15Value_any s vs _ n _ H.out.1 H.out.2.1 HN.out.2.2).mono ?_); rintro e w1 ⟨rfl, rfl⟩; rw [← HN.out.2.1]))
        go_round
        case rel => exact ⟨k + 1, o + 1, n, by omega, by omega, by go_num, by go_num, rfl, openP_open HP.out HN.out.1 HN.out.2.1.symm⟩
        case measure => simp [intOf]; omega
      · go_wp2_with (go_at_call 112; ((with_reducible refine (l15Value_any s vs _ n _ H.out.1 H.out.2.1 HN.out.2.2).mono ?_); rintro e w1 ⟨rfl, rfl⟩; rw [← HN.out.2.1]))
        exact bodyPost_ret (v := .tuple #[.int .i64 1, .int .i64 0]) (by simp [results, Try.results110, go_sem]) rfl ⟨1, 0, rfl, .inl ⟨rfl, rfl, n, List.mem_of_getElem? HN.out.1, HN.out.2.1.symm⟩, rfl⟩
      · go_wp2_with (go_at_call 112; ((with_reducible refine (l15Value_any s vs _ n _ H.out.1 H.out.2.1 HN.out.2.2).mono ?_); rintro e w1 ⟨rfl, rfl⟩; rw [← HN.out.2.1]))
        go_round
        case rel => exact ⟨k + 1, o, u, by omega, by omega, by go_num, rfl, rfl, openP_false HP.out HN.out.1 HN.out.2.1.symm⟩
        case measure => simp [intOf]; omega
    · obtain rfl : k = c.length := by omega
      have hp := HP.out
      rw [List.take_length] at hp
      rcases (show o = 0 ∨ o = 1 ∨ 2 ≤ o by omega) with h0 | h1 | h2
      · subst h0
        have hq : ∀ n ∈ c, litV vs n = -1 := by
          rcases hp with hp | hp | hp
          · exact hp.2.2
          · omega
          · omega
        have HQ := Lib.hid hq
        clear hp hq
        go_wp2_with fail
        exact bodyPost_ret (v := .tuple #[.int .i64 (-1), .int .i64 0]) (by simp [results, Try.results110, go_sem]) rfl ⟨-1, 0, rfl, .inr (.inl ⟨rfl, rfl, HQ.out⟩), rfl⟩
      · subst h1
        have hq : u ∈ c ∧ litV vs u = 0 ∧ ∀ n ∈ c, n ≠ u → litV vs n = -1 := by
          rcases hp with hp | hp | hp
          · omega
          · exact hp.2
          · omega
        have HQ := Lib.hid hq
        clear hp hq
        go_wp2_with fail
        exact bodyPost_ret (v := .tuple #[.int .i64 0, .int .i64 u]) (by simp [results, Try.results110, go_sem]) rfl ⟨0, u, rfl, .inr (.inr (.inr ⟨rfl, HQ.out⟩)), rfl⟩
      · have hq : ∃ n ∈ c, litV vs n = 0 := by
          rcases hp with hp | hp | hp
          · omega
          · omega
          · exact hp.2
        have HQ := Lib.hid hq
        clear hp hq
        go_wp2_with fail
        exact bodyPost_ret (v := .tuple #[.int .i64 0, .int .i64 0]) (by simp [results, Try.results110, go_sem]) rfl ⟨0, 0, rfl, .inr (.inr (.inl ⟨rfl, rfl, HQ.out⟩)), rfl⟩

def SetPost (us : List Int) (w : World) (e : Ending) (w' : World) : Prop := ∃ s' c', e = .returned (.slice s' 26 c') ∧ Sl w' s' (ints us) ∧ Below w.heap.size w w'

set_option maxHeartbeats 800000 in
theorem l15Set_any (s : Option Addr) (vs : List Int) (cap : Nat) (n : Int) (w : World) (h : Sl w s (ints vs)) (hv : WV vs) (hn : lit25 n) :
    Calls Try.prog 103 #[.slice s 26 cap, .int .i64 n] w (SetPost (setL vs n) w) := by
  obtain ⟨q, q1, q2, q3⟩ := setL_var hn
  have hl := hv.len
  have hb1 := (Below.refl w.heap.size w).alloc (Nat.le_refl _) (.cells #[] 3)
  have ho := own_of_blk (base := w.heap.size) (size := 1) (n := 0) (cur := #[]) (blk_new w (.cells #[] 3)) (Nat.le_refl _) (by simp) (by unfold maxLen; omega)
  have HA := Lib.hid (And.intro (h.mono hb1) (And.intro hb1 (And.intro ho hb1.size)))
  have HL := Lib.hid hl
  clear h hv hn hb1 ho hl
  rcases q3 with ⟨q3, rfl⟩ | ⟨q3, rfl⟩
  · have e : setL vs (-(q : Int)) = vs.set q (-1) := by unfold setL; rw [if_pos q3]; simp
    rw [e]
    clear e
    go_enter Try.func103, Try.ntmps103
    go_wp2_with (at_builtin; refine wpl_app rfl _ _ rfl elem_int HA.out.2.2.1 rfl rfl (by rw [ints_length, HL.out]) HA.out.1 (ints_one _) 26 rfl (ints vs) (by simp) (by unfold maxLen; omega) (by omega) HA.out.2.2.2 ?_; intro s6 c6 w6 h6 hb6 _ _; rcases own_some h6 with ⟨_, hbad, _⟩ | ⟨g6, rfl⟩; (first | (exfalso; omega) | skip); have z1 := h6.cellAt q (by rw [Nat.mul_one]; exact q2); obtain ⟨y, hy⟩ := get_of_lt (l := ints vs) (k := q) (by rw [ints_length, HL.out]; exact q2); rw [hy] at z1; have z2 := h6.frozenAt q; have HB := Lib.hid (And.intro h6 (HA.out.2.1.trans hb6)); clear h6 hb6 hy)
    go_ret
    have hst := (HB.out.1.stored q (.int .i64 (-1))).1
    have hset : (ints vs).set q (.int .i64 (-1)) = ints (vs.set q (-1)) := by simp [ints, List.map_set]
    rw [hset] at hst
    have hg := (own_blk HB.out.1 (k := g6) rfl).1
    exact ⟨_, _, rfl, own_sl hst, HB.out.2.setCell (p := ⟨g6, q, none⟩) hg _⟩
  · have e : setL vs (q : Int) = vs.set q 1 := by unfold setL; rw [if_neg (by omega)]; simp
    rw [e]
    clear e
    go_enter Try.func103, Try.ntmps103
    go_wp2_with (at_builtin; refine wpl_app rfl _ _ rfl elem_int HA.out.2.2.1 rfl rfl (by rw [ints_length, HL.out]) HA.out.1 (ints_one _) 26 rfl (ints vs) (by simp) (by unfold maxLen; omega) (by omega) HA.out.2.2.2 ?_; intro s6 c6 w6 h6 hb6 _ _; rcases own_some h6 with ⟨_, hbad, _⟩ | ⟨g6, rfl⟩; (first | (exfalso; omega) | skip); have z1 := h6.cellAt q (by rw [Nat.mul_one]; exact q2); obtain ⟨y, hy⟩ := get_of_lt (l := ints vs) (k := q) (by rw [ints_length, HL.out]; exact q2); rw [hy] at z1; have z2 := h6.frozenAt q; have HB := Lib.hid (And.intro h6 (HA.out.2.1.trans hb6)); clear h6 hb6 hy)
    go_ret
    have hst := (HB.out.1.stored q (.int .i64 (1))).1
    have hset : (ints vs).set q (.int .i64 (1)) = ints (vs.set q (1)) := by simp [ints, List.map_set]
    rw [hset] at hst
    have hg := (own_blk HB.out.1 (k := g6) rfl).1
    exact ⟨_, _, rfl, own_sl hst, HB.out.2.setCell (p := ⟨g6, q, none⟩) hg _⟩

theorem SlS.row' {w : World} {s : Option Addr} {rows : List (List Int)} (h : SlS w s rows) {k : Nat} {r : List Int} (hr : rows[k]? = some r) : ∃ b off sr cr, s = some ⟨b, off, none⟩ ∧ b < w.heap.size ∧ w.cell? ⟨b, off + k, none⟩ = some (.slice sr r.length cr) ∧ Sl w sr (ints r) := by
  obtain ⟨b, off, sr, cr, h1, h2, h3, h4⟩ := h.row (Below.refl _ _) hr
  exact ⟨b, off, sr, cr, h1, h2, h3, h4⟩
/-- A clause is not refuted. -/
def okC (vs c : List Int) : Prop := ∃ n ∈ c, litV vs n = 1 ∨ litV vs n = 0
def PrPost (F : List (List Int)) (vs : List Int) (w : World) (e : Ending) (w' : World) : Prop :=
  ∃ (s' : Option Addr) (c' : Nat) (us : List Int) (ok : Bool), e = .returned (.tuple #[.slice s' 26 c', .bool ok]) ∧ Sl w' s' (ints us) ∧ WV us ∧ Below w.heap.size w w' ∧ zc us ≤ zc vs ∧ (∀ o, isRes F us o → isRes F vs o) ∧ (ok = false → isRes F vs none) ∧ (ok = true → ∀ c ∈ F, okC us c)

set_option maxHeartbeats 1600000 in
theorem l15Propagate_any (F : List (List Int)) (hF : F.length ≤ 80) (h25 : ∀ c ∈ F, c.length ≤ 3 ∧ ∀ n ∈ c, lit25 n) : ∀ (z : Nat) (s sf : Option Addr) (cap cf : Nat) (vs : List Int) (w : World), zc vs = z → SlS w sf F → Sl w s (ints vs) → WV vs →
    Calls Try.prog 102 #[.slice sf F.length cf, .slice s 26 cap] w (PrPost F vs w) := by
  intro z
  induction z using Nat.strongRecOn with
  | ind z ih =>
    intro s sf cap cf vs w hz hf hs hv
    have H : Hid (SlS w sf F ∧ Sl w s (ints vs) ∧ WV vs) := ⟨hf, hs, hv⟩
    have HI := Lib.hid (And.intro ih hz)
    have H25 := Lib.hid h25
    clear hf hs hv ih hz
    go_enter Try.func102, Try.ntmps102
    go_wp2_with fail
    go_loop [6] (fun v6 => ∃ k : Nat, k ≤ F.length ∧ v6 = .int .i64 k ∧ ∀ c ∈ F.take k, okC vs c) (fun v6 => F.length - (intOf v6).toNat)
    case atStart => exact ⟨0, Nat.zero_le _, rfl, by simp⟩
    case round =>
      obtain ⟨k, hk, rfl, hp⟩ := hrel
      have HP := Lib.hid hp
      clear hp
      by_cases hlt : k < F.length
      · obtain ⟨c, hc⟩ := get_of_lt hlt
        obtain ⟨hc3, hc25⟩ := H25.out c (List.mem_of_getElem? hc)
        obtain ⟨b, off, sc, cc, rfl, hbw, hz, hsc⟩ := H.out.1.row' hc
        have HC := Lib.hid (And.intro hc (And.intro hsc hc25))
        have hmem := Lib.hid (List.mem_of_getElem? hc)
        clear hc hsc hc25 hbw
        go_upto_region 5 with (go_at_call 110; ((with_reducible refine (l15State_any s sc vs c _ _ _ H.out.2.1 H.out.2.2 HC.out.2.1 HC.out.2.2 hc3).mono ?_); rintro e w1 ⟨st, u, rfl, hst, rfl⟩))
        rcases hst with ⟨rfl, rfl, hq⟩ | ⟨rfl, rfl, hq⟩ | ⟨rfl, rfl, hq⟩ | ⟨rfl, hq⟩
        · obtain ⟨m, hm1, hm2⟩ := hq
          have HO : Hid (∀ c ∈ F.take (k + 1), okC vs c) := Lib.hid (all_snoc HP.out HC.out.1 ⟨m, hm1, .inl hm2⟩)
          clear hm1 hm2
          go_wp2_with fail
          go_round
          case rel => exact ⟨k + 1, by omega, by go_num, HO.out⟩
          case measure => simp [intOf]; omega
        · have HQ := Lib.hid hq
          clear hq
          go_wp2_with fail
          exact bodyPost_ret (v := .tuple #[.slice s 26 cap, .bool false]) (by simp [results, Try.results102, go_sem]) rfl ⟨s, cap, vs, false, rfl, H.out.2.1, H.out.2.2, Below.refl _ _, Nat.le_refl _, fun o h => h, fun _ => res_conf hmem.out HC.out.2.2 HQ.out, fun h => by cases h⟩
        · obtain ⟨m, hm1, hm2⟩ := hq
          have HO : Hid (∀ c ∈ F.take (k + 1), okC vs c) := Lib.hid (all_snoc HP.out HC.out.1 ⟨m, hm1, .inr hm2⟩)
          clear hm1 hm2
          go_wp2_with fail
          go_round
          case rel => exact ⟨k + 1, by omega, by go_num, HO.out⟩
          case measure => simp [intOf]; omega
        · obtain ⟨hu1, hu2, hu3⟩ := hq
          have hu25 := HC.out.2.2 u hu1
          have hu0 : u ≠ 0 := hu25.1
          have hzs := zc_setL H.out.2.2 hu25 hu2
          have HU := Lib.hid (And.intro hu1 (And.intro hu2 (And.intro hu3 (And.intro hu25 hzs))))
          have hun : (u != 0) = true := by simpa using hu0
          clear hu1 hu2 hu3 hu25 hzs
          go_wp2_with (first
            | (go_at_call 103; ((with_reducible refine (l15Set_any s vs cap u _ H.out.2.1 H.out.2.2 HU.out.2.2.2.1).mono ?_); rintro e w2 ⟨s2, c2, rfl, h2, hq⟩; have H2 := Lib.hid (And.intro h2 hq); clear h2 hq))
            | (go_at_call 102; ((with_reducible refine (HI.out.1 _ (by have h1 := HU.out.2.2.2.2; have h2 := HI.out.2; omega) s2 _ c2 _ (setL vs u) _ rfl (H.out.1.mono H2.out.2) H2.out.1 (H.out.2.2.putL HU.out.2.2.2.1)).mono ?_); rintro e w3 ⟨s3, c3, us, ok, rfl, a1, a2, a3, a4, a5, a6, a7⟩; have H3 := Lib.hid (And.intro a1 (And.intro a2 (And.intro (H2.out.2.trans (a3.mono H2.out.2.size)) (And.intro a4 (And.intro a5 (And.intro a6 a7)))))); clear a1 a2 a3 a4 a5 a6 a7)))
          have hru := fun o (h : isRes F (setL vs u) o) => res_unit H.out.2.2 hmem.out HC.out.2.2 HU.out.1 HU.out.2.1 HU.out.2.2.1 h
          exact bodyPost_ret (v := .tuple #[.slice s3 26 c3, .bool ok]) (by simp [results, Try.results102, go_sem]) rfl ⟨s3, c3, us, ok, rfl, H3.out.1, H3.out.2.1, H3.out.2.2.1, (by have h1 := H3.out.2.2.2.1; have h2 := HU.out.2.2.2.2; omega), fun o h => hru o (H3.out.2.2.2.2.1 o h), fun h => hru _ (H3.out.2.2.2.2.2.1 h), H3.out.2.2.2.2.2.2⟩
      · obtain rfl : k = F.length := by omega
        have hp := HP.out
        rw [List.take_length] at hp
        have HQ := Lib.hid hp
        clear hp
        go_wp2_with fail
        exact bodyPost_ret (v := .tuple #[.slice s 26 cap, .bool true]) (by simp [results, Try.results102, go_sem]) rfl ⟨s, cap, vs, true, rfl, H.out.2.1, H.out.2.2, Below.refl _ _, Nat.le_refl _, fun o h => h, (fun h => by cases h), fun _ => HQ.out⟩

def SoPost (F : List (List Int)) (vs : List Int) (w : World) (e : Ending) (w' : World) : Prop :=
  ∃ (s' : Option Addr) (c' : Nat) (o : Option (List Int)), e = .returned (.tuple #[.slice s' (o.getD []).length c', .bool o.isSome]) ∧ Sl w' s' (ints (o.getD [])) ∧ isRes F vs o ∧ Below w.heap.size w w'
theorem full_ok {F : List (List Int)} {us : List Int} (hv : WV us) (hf : ∀ i, 1 ≤ i → i < 26 → us.getD i 0 ≠ 0) (h25 : ∀ c ∈ F, c.length ≤ 3 ∧ ∀ n ∈ c, lit25 n) (h : ∀ c ∈ F, okC us c) : isRes F us (some us) := by
  refine res_full hv hf fun c hc => ?_
  obtain ⟨n, hn, h1⟩ := h c hc
  have h2 := (h25 c hc).2 n hn
  refine ⟨n, hn, h2, ?_⟩
  rcases h1 with h1 | h1
  · exact h1
  · exfalso
    obtain ⟨v, v1, v2, v3⟩ := setL_var h2
    have := hf v v1 v2
    unfold litV at h1
    rcases v3 with ⟨w, rfl⟩ | ⟨w, rfl⟩
    · rw [if_pos w, Int.neg_neg, Int.toNat_natCast] at h1; omega
    · rw [if_neg (by omega), Int.toNat_natCast] at h1; omega
theorem isRes_len {F : List (List Int)} {vs r : List Int} (h : isRes F vs (some r)) : r.length = 26 := h.1.1.1.len

set_option maxHeartbeats 1600000 in
theorem l15Solve_any (F : List (List Int)) (hF : F.length ≤ 80) (h25 : ∀ c ∈ F, c.length ≤ 3 ∧ ∀ n ∈ c, lit25 n) : ∀ (z : Nat) (s sf : Option Addr) (cap cf : Nat) (vs : List Int) (w : World), zc vs = z → SlS w sf F → Sl w s (ints vs) → WV vs →
    Calls Try.prog 80 #[.slice sf F.length cf, .slice s 26 cap] w (SoPost F vs w) := by
  intro z
  induction z using Nat.strongRecOn with
  | ind z ih =>
    intro s sf cap cf vs w hz hf hs hv
    have H : Hid (SlS w sf F ∧ Sl w s (ints vs) ∧ WV vs) := ⟨hf, hs, hv⟩
    have HI := Lib.hid (And.intro ih hz)
    have H25 := Lib.hid h25
    clear hf hs hv ih hz
    go_enter Try.func80, Try.ntmps80
    go_upto_region 2 with (go_at_call 102; ((with_reducible refine (l15Propagate_any F hF H25.out _ s sf _ _ vs _ rfl H.out.1 H.out.2.1 H.out.2.2).mono ?_); rintro e w1 ⟨s1, c1, us, ok, rfl, a1, a2, a3, a4, a5, a6, a7⟩; have H1 := Lib.hid (And.intro a1 (And.intro a2 (And.intro a3 (And.intro a4 (And.intro a5 (And.intro a6 a7)))))); clear a1 a2 a3 a4 a5 a6 a7))
    cases ok
    · go_wp2_with fail
      have hb1 := (Below.refl w1.heap.size w1).alloc (Nat.le_refl _) (.cells #[] 3)
      exact bodyPost_ret (v := .tuple #[.slice (some ⟨w1.heap.size, 0, none⟩) 0 0, .bool false]) (by simp [results, Try.results80, go_sem]) rfl ⟨_, _, none, rfl, Sl.nil _ _, H1.out.2.2.2.2.2.1 (by first | trivial | rfl), H1.out.2.2.1.trans (hb1.mono H1.out.2.2.1.size)⟩
    · go_wp2_with fail
      go_loop [8] (fun v8 => ∃ k : Nat, 1 ≤ k ∧ k ≤ 26 ∧ v8 = .int .i64 k ∧ ∀ u, 1 ≤ u → u < k → us.getD u 0 ≠ 0) (fun v8 => 26 - (intOf v8).toNat)
      case atStart => exact ⟨1, by omega, by omega, rfl, fun u h1 h2 => by omega⟩
      case round =>
        obtain ⟨k, hk1, hk, rfl, hp⟩ := hrel
        have HP := Lib.hid hp
        clear hp
        by_cases hlt : k < 26
        · obtain ⟨x, hx⟩ := get_of_lt (l := us) (k := k) (by rw [H1.out.2.1.len]; exact hlt)
          obtain ⟨b, off, rfl, hbw, hz⟩ := H1.out.1.int (Below.refl _ _) hx
          obtain ⟨x1, x2⟩ := H1.out.2.1.mem hx
          have hgd : us.getD k 0 = x := by rw [List.getD_eq_getElem?_getD, hx]; rfl
          by_cases h0 : x = 0
          · subst h0
            have hfz : fzV us k := ⟨hk1, hlt, hgd, HP.out⟩
            have hz1 := zc_set H1.out.2.1 hlt hgd (a := -1) (by decide)
            have hz2 := zc_set H1.out.2.1 hlt hgd (a := 1) (by decide)
            have hwv1 := H1.out.2.1.set hk1 hlt (a := -1) (by simp)
            have hwv2 := H1.out.2.1.set hk1 hlt (a := 1) (by simp)
            have hs1 : setL us (-(k : Int)) = us.set k (-1) := by unfold setL; rw [if_pos (by omega)]; simp
            have hs2 : setL us (k : Int) = us.set k 1 := by unfold setL; rw [if_neg (by omega)]; simp
            have hl1 : lit25 (-(k : Int)) := ⟨by omega, by omega, by omega⟩
            have hl2 : lit25 (k : Int) := ⟨by omega, by omega, by omega⟩
            have hlt1 : zc (us.set k (-1)) < z := by have h1 := H1.out.2.2.2.1; have h2 := HI.out.2; omega
            have hlt2 : zc (us.set k 1) < z := by have h1 := H1.out.2.2.2.1; have h2 := HI.out.2; omega
            have HK := Lib.hid (And.intro hfz (And.intro hwv1 (And.intro hwv2 (And.intro hs1 (And.intro hs2 (And.intro hl1 (And.intro hl2 (And.intro hlt1 hlt2))))))))
            clear hx hgd hfz hz1 hz2 hwv1 hwv2 hs1 hs2 hl1 hl2 hlt1 hlt2 hbw
            go_upto_region 9 with (first
              | (go_at_call 103; ((with_reducible refine (l15Set_any _ us c1 (-(k : Int)) _ H1.out.1 H1.out.2.1 HK.out.2.2.2.2.2.1).mono ?_); rintro e w2 ⟨s2, c2, rfl, h2, hq⟩; rw [HK.out.2.2.2.1] at h2; have H2 := Lib.hid (And.intro h2 (And.intro hq (H1.out.2.2.1.trans (hq.mono H1.out.2.2.1.size)))); clear h2 hq))
              | (go_at_call 80; ((with_reducible refine (HI.out.1 _ HK.out.2.2.2.2.2.2.2.1 s2 _ c2 _ (us.set k (-1)) _ rfl (H.out.1.mono H2.out.2.2) H2.out.1 HK.out.2.1).mono ?_); rintro e w3 ⟨s3, c3, o, rfl, a1, a2, a3⟩; have H3 := Lib.hid (And.intro a1 (And.intro a2 (And.intro (H2.out.2.1.trans (a3.mono H2.out.2.1.size)) (H2.out.2.2.trans (a3.mono H2.out.2.2.size))))); clear a1 a2 a3)))
            cases o with
            | some r =>
              have hrl := isRes_len H3.out.2.1
              go_wp2_with fail
              exact bodyPost_ret (v := .tuple #[.slice s3 r.length c3, .bool true]) (by simp [results, Try.results80, go_sem]) rfl ⟨s3, c3, some r, rfl, H3.out.1, H1.out.2.2.2.2.1 _ (res_false H1.out.2.1 HK.out.1 H3.out.2.1), H3.out.2.2.2⟩
            | none =>
              go_wp2_with (first
                | (go_at_call 103; ((with_reducible refine (l15Set_any _ us c1 (k : Int) _ (H1.out.1.mono H3.out.2.2.1) H1.out.2.1 HK.out.2.2.2.2.2.2.1).mono ?_); rintro e w4 ⟨s4, c4, rfl, h2, hq⟩; rw [HK.out.2.2.2.2.1] at h2; have H4 := Lib.hid (And.intro h2 (H3.out.2.2.2.trans (hq.mono H3.out.2.2.2.size))); clear h2 hq))
                | (go_at_call 80; ((with_reducible refine (HI.out.1 _ HK.out.2.2.2.2.2.2.2.2 s4 _ c4 _ (us.set k 1) _ rfl (H.out.1.mono H4.out.2) H4.out.1 HK.out.2.2.1).mono ?_); rintro e w5 ⟨s5, c5, o, rfl, a1, a2, a3⟩; have H5 := Lib.hid (And.intro a1 (And.intro a2 (H4.out.2.trans (a3.mono H4.out.2.size)))); clear a1 a2 a3)))
              exact bodyPost_ret (v := .tuple #[.slice s5 (o.getD []).length c5, .bool o.isSome]) (by simp [results, Try.results80, go_sem]) rfl ⟨s5, c5, o, rfl, H5.out.1, H1.out.2.2.2.2.1 _ (res_true H1.out.2.1 HK.out.1 H3.out.2.1 H5.out.2.1), H5.out.2.2⟩
          · have HP2 : Hid (∀ u, 1 ≤ u → u < k + 1 → us.getD u 0 ≠ 0) := Lib.hid fun u h1 h2 => by
              by_cases e : u = k
              · subst e; rw [hgd]; exact h0
              · exact HP.out u h1 (by omega)
            clear hx hgd hbw
            go_wp2_with fail
            go_round
            case rel => exact ⟨k + 1, by omega, by omega, by go_num, HP2.out⟩
            case measure => simp [intOf]; omega
        · obtain rfl : k = 26 := by omega
          have hr := full_ok H1.out.2.1 (fun i h1 h2 => HP.out i h1 h2) H25.out (H1.out.2.2.2.2.2.2 (by first | trivial | rfl))
          have HR := Lib.hid (And.intro hr H1.out.2.1.len)
          clear hr
          go_wp2_with fail
          exact bodyPost_ret (v := .tuple #[.slice s1 26 c1, .bool true]) (by simp [results, Try.results80, go_sem]) rfl ⟨s1, c1, some us, by rw [Option.getD_some, HR.out.2]; rfl, H1.out.1, H1.out.2.2.2.2.1 _ HR.out.1, H1.out.2.2.1⟩

def zero26 : List Int := List.replicate 26 0
theorem zero26_wv : WV zero26 := by
  exact ⟨by decide, by decide, fun i => .inl (by unfold zero26; rw [List.getD_eq_getElem?_getD, List.getElem?_replicate]; split <;> rfl)⟩
/-- What Satisfy returns. -/
def satP (F : List (List Int)) (o : Option (List Int)) : Prop := (clausesB F = true ∧ isRes F zero26 o) ∨ (clausesB F = false ∧ o = none)
theorem satP_uniq {F : List (List Int)} {o p : Option (List Int)} (h : satP F o) (k : satP F p) : o = p := by
  rcases h with ⟨h1, h2⟩ | ⟨h1, rfl⟩ <;> rcases k with ⟨k1, k2⟩ | ⟨k1, rfl⟩
  · exact isRes_uniq h2 k2
  · rw [h1] at k1; cases k1
  · rw [h1] at k1; cases k1
  · rfl
theorem satP_len {F : List (List Int)} {o : Option (List Int)} (h : satP F o) : (o.getD []).length ≤ 26 := by
  cases o with
  | none => simp
  | some r =>
    rcases h with ⟨_, h⟩ | ⟨_, h⟩
    · exact Nat.le_of_eq (isRes_len h)
    · cases h
def SaPost (F : List (List Int)) (w : World) (e : Ending) (w' : World) : Prop :=
  ∃ (s' : Option Addr) (c' : Nat) (o : Option (List Int)), e = .returned (.tuple #[.slice s' (o.getD []).length c', .bool o.isSome]) ∧ Sl w' s' (ints (o.getD [])) ∧ satP F o ∧ Below w.heap.size w w'

set_option maxHeartbeats 800000 in
theorem Satisfy_s (s : Option Addr) (cap : Nat) (F : List (List Int)) (w : World) (hs : SlS w s F) (hn : F.length ≤ 1048576) (hr : ∀ r ∈ F, r.length ≤ 1048576) :
    Calls Try.prog 40 #[.slice s F.length cap] w (SaPost F w) := by
  have HS := Lib.hid (And.intro hs hr)
  clear hs hr
  cases hv : clausesB F
  · have HV := Lib.hid hv
    clear hv
    go_enter Try.func40, Try.ntmps40
    go_wp2_with (go_at_call 50; ((with_reducible refine (ClausesValid_s s _ F _ HS.out.1 hn HS.out.2).mono ?_); rintro e w1 ⟨rfl, rfl⟩; rw [HV.out]))
    exact bodyPost_ret (v := .tuple #[.slice (some ⟨w.heap.size, 0, none⟩) 0 0, .bool false]) (by simp [results, Try.results40, go_sem]) rfl ⟨some ⟨w.heap.size, 0, none⟩, 0, none, rfl, Sl.nil _ _, .inr ⟨HV.out, rfl⟩, (Below.refl _ _).alloc (Nat.le_refl _) _⟩
  · have hcl : clausesP F := by simpa [clausesB] using hv
    have h80 := hcl.1
    have h25 : ∀ c ∈ F, c.length ≤ 3 ∧ ∀ n ∈ c, lit25 n := hcl.2
    have HV := Lib.hid (And.intro hv h25)
    clear h25
    have hmk : ∀ w, (Instr.makeSlice 36 (.int .i64 26) (.int .i64 26)).run Try.prog w = .ok (.slice (some ⟨w.heap.size, 0, none⟩) 26 26) (w.alloc (.cells (ints zero26).toArray 3)) := fun w => mkInts w 26 (by omega)
    have hb := (Below.refl w.heap.size w).alloc (Nat.le_refl _) (.cells (ints zero26).toArray 3)
    have hz : Sl (w.alloc (.cells (ints zero26).toArray 3)) (some ⟨w.heap.size, 0, none⟩) (ints zero26) := by
      have := Sl.blk (blk_new w (.cells (ints zero26).toArray 3)); simpa using this
    have HB := Lib.hid (And.intro hb (And.intro hz (HS.out.1.mono hb)))
    clear hv hcl hb hz
    go_enter Try.func40, Try.ntmps40
    go_wp2_with (first
      | (go_at_call 50; ((with_reducible refine (ClausesValid_s s _ F _ HS.out.1 hn HS.out.2).mono ?_); rintro e w1 ⟨rfl, rfl⟩; rw [HV.out.1]))
      | (go_at_call 80; ((with_reducible refine (l15Solve_any F h80 HV.out.2 _ _ s _ _ zero26 _ rfl HB.out.2.2 HB.out.2.1 zero26_wv).mono ?_); rintro e w2 ⟨s2, c2, o, rfl, a1, a2, a3⟩; have H2 := Lib.hid (And.intro a1 (And.intro a2 (HB.out.1.trans (a3.mono HB.out.1.size)))); clear a1 a2 a3)))
    exact bodyPost_ret (v := .tuple #[.slice s2 (o.getD []).length c2, .bool o.isSome]) (by simp [results, Try.results40, go_sem]) rfl ⟨s2, c2, o, rfl, H2.out.1, .inl ⟨HV.out.1, H2.out.2.1⟩, H2.out.2.2⟩

end Go.Proofs.Ytddmgphlhfilnaa
