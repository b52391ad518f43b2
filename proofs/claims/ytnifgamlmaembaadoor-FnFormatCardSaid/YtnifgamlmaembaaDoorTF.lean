import Derived.Test.YtnifgamlmaembaaDoorTD
import Derived.Lib.Split
import Derived.Lib.SplitLaws
namespace Go.Proofs.YtnifgamlmaembaaDoor
set_option linter.unusedVariables false
set_option linter.unusedSimpArgs false
open Go.RowKit

/-! Fields of a line: split at blanks. -/

def fieldsG (w : Tx) : Tx → List Tx
  | [] => [w]
  | c :: r => if c = 32 then w :: fieldsG [] r else fieldsG (w ++ [c]) r
def fieldsT (s : Tx) : List Tx := fieldsG [] s
def consHead (c : UInt8) : List Tx → List Tx
  | [] => []
  | x :: t => (c :: x) :: t
theorem fieldsG_cons (c : UInt8) : ∀ (s w : Tx), fieldsG (c :: w) s = consHead c (fieldsG w s)
  | [], w => rfl
  | d :: r, w => by
    unfold fieldsG
    by_cases h : d = 32
    · rw [if_pos h, if_pos h]; rfl
    · rw [if_neg h, if_neg h]; exact fieldsG_cons c r (w ++ [d])
theorem splitK_cons {c : UInt8} (hc : c ≠ 32) : ∀ (k : Nat) (r : Tx), Lib.splitK [32] 0 k (c :: r) = consHead c (Lib.splitK [32] 0 k r)
  | 0, r => rfl
  | k + 1, r => by
    have hp : ([32] : Tx).isPrefixOf (c :: r) = false := by simp [List.isPrefixOf]; exact fun h => hc h.symm
    have hi : Lib.index (c :: r) [32] = if Lib.index r [32] == -1 then -1 else Lib.index r [32] + 1 := by
      show (if ([32] : Tx).isPrefixOf (c :: r) then (0 : Int) else _) = _
      rw [hp]; rfl
    have hge := Lib.index_ge r [32]
    unfold Lib.splitK
    by_cases h : (Lib.index r [32] == -1) = true
    · rw [hi, if_pos h, if_pos (by rfl), if_pos h]; rfl
    · have h' : ¬ Lib.index r [32] = -1 := fun e => h (beq_iff_eq.2 e)
      rw [hi, if_neg h, if_neg (by rw [beq_iff_eq]; omega), if_neg h]
      have e : (Lib.index r [32] + 1).toNat = (Lib.index r [32]).toNat + 1 := by omega
      rw [e]
      have e1 : (c :: r).take ((Lib.index r [32]).toNat + 1 + 0) = c :: r.take ((Lib.index r [32]).toNat + 0) := by simp
      have e2 : (c :: r).drop ((Lib.index r [32]).toNat + 1 + ([32] : Tx).length) = r.drop ((Lib.index r [32]).toNat + ([32] : Tx).length) := by simp
      rw [e1, e2]; rfl
theorem split_fields : ∀ s : Tx, Lib.split s [32] = fieldsT s
  | [] => rfl
  | c :: r => by
    have ih := split_fields r
    unfold fieldsT fieldsG
    unfold Lib.split at *
    by_cases h : c = 32
    · subst h
      rw [if_pos rfl, Lib.count_cons_eq, Nat.add_comm]
      have hi : Lib.index (32 :: r) [32] = 0 := by
        show (if ([32] : Tx).isPrefixOf (32 :: r) then (0 : Int) else _) = _
        rw [if_pos (by simp [List.isPrefixOf])]
      unfold Lib.splitK
      rw [hi, if_neg (by decide)]
      show [] :: Lib.splitK [32] 0 (Lib.count r [32]) r = _
      rw [ih]; rfl
    · rw [if_neg h, Lib.count_cons_ne c 32 r h, splitK_cons h, ih]
      exact (fieldsG_cons c r []).symm
theorem fieldsT_pos (s : Tx) : 1 ≤ (fieldsT s).length := by
  have : ∀ (s w : Tx), 1 ≤ (fieldsG w s).length := by
    intro s
    induction s with
    | nil => intro w; simp [fieldsG]
    | cons c r ih =>
      intro w
      unfold fieldsG
      split
      · simp
      · exact ih _
  exact this s []
theorem fieldsG_len : ∀ (s w : Tx), (fieldsG w s).length ≤ s.length + 1
  | [], w => by simp [fieldsG]
  | c :: r, w => by
    unfold fieldsG
    split
    · simp only [List.length_cons]; have := fieldsG_len r []; omega
    · have := fieldsG_len r (w ++ [c]); simp only [List.length_cons]; omega

theorem drop_get {l : Tx} {k : Nat} {b : UInt8} (h : l[k]? = some b) : l.drop k = b :: l.drop (k + 1) := by
  obtain ⟨hlt, rfl⟩ := List.getElem?_eq_some_iff.1 h
  exact List.drop_eq_getElem_cons hlt
theorem take_one_drop {l : Tx} {k : Nat} {b : UInt8} (h : l[k]? = some b) : (l.drop k).take 1 = [b] := by rw [drop_get h]; rfl

theorem cat_snoc (cur : Tx) (b : UInt8) : (⟨cur.toArray⟩ : ByteArray) ++ ⟨#[b]⟩ = ⟨(cur ++ [b]).toArray⟩ := by
  apply ByteArray.ext
  simp

set_option maxRecDepth 100000 in
set_option maxHeartbeats 1600000 in
theorem l13Fields_any (l : Tx) (hl : l.length ≤ 1048576) (w : World) :
    Calls Tryd.prog 39 #[sv l] w fun e w' => ∃ s cap, e = .returned (.slice s (fieldsT l).length cap) ∧ w'.ownsRow w.heap.size 9 1 (.slice s (fieldsT l).length cap) (fieldsT l).length (strs (fieldsT l)) ∧ Below w.heap.size w w' := by
  unfold sv
  obtain ⟨X, hX⟩ : ∃ X : ByteArray, X = ⟨l.toArray⟩ := ⟨_, rfl⟩
  have hXs : X.size = l.length := by rw [hX, size_mk]
  rw [← hX]
  have HX := Lib.hid hX
  clear hX
  go_enter Tryd.func39, Tryd.ntmps39
  go_wp2_with fail
  have h0 : FmS w [] (.slice (some ⟨w.heap.size, 0, none⟩) 0 0) 0 (w.alloc (.cells #[] 9)) :=
    ⟨own_of_blk (cur := #[]) (blk_new w (.cells #[] 9)) (Nat.le_refl _) rfl (by decide), (Below.refl _ _).alloc (Nat.le_refl _) _⟩
  have H0 := Lib.hid h0
  clear h0
  go_loopw [5, 3, 4] (fun v5 v3 v4 wr => ∃ (k N : Nat) (s : Option Addr) (cap : Nat) (ls : List Tx) (cur : Tx), k ≤ l.length ∧ v5 = .int .i64 k ∧ v3 = .slice s N cap ∧ v4 = .string ⟨cur.toArray⟩ ∧ N = ls.length ∧ N + cur.length ≤ k ∧ ls ++ fieldsG cur (l.drop k) = fieldsT l ∧ FmS w ls (.slice s N cap) N wr) (fun v5 _ _ _ => l.length - (intOf v5).toNat)
  case atStart => exact ⟨0, 0, _, _, [], [], Nat.zero_le _, rfl, rfl, rfl, rfl, Nat.zero_le _, rfl, H0.out⟩
  case round =>
    clear H0
    obtain ⟨k, N, s, cap, ls, cur, hk, rfl, rfl, rfl, hN, hNk, hls, hf⟩ := hrel
    have HF := Lib.hid hf
    have HL := Lib.hid (And.intro hls hN)
    clear hf hls hN
    by_cases hlt : k < l.length
    · obtain ⟨b, hb⟩ := get_of_lt hlt
      have hXk : ∀ h : k < X.size, X[k]'h = b := fun h => by
        have e := HX.out
        subst e
        have := (List.getElem?_eq_some_iff.1 hb).2
        simpa [ByteArray.getElem_eq_getElem_data] using this
      have hXe : X.extract k (k + 1) = ⟨#[b]⟩ := by
        rw [HX.out]
        apply ByteArray.ext
        rw [ByteArray.data_extract]
        apply Array.ext'
        simp [List.extract_eq_take_drop, take_one_drop hb]
      have hdr : l.drop k = b :: l.drop (k + 1) := drop_get hb
      have HB := Lib.hid hb
      clear hb
      have hn1 : ¬ 9223372036854775807 < cur.length + 1 := by omega
      have hN9 : N ≤ 1048576 := by omega
      by_cases h32 : b = 32
      · subst h32
        have hls2 : (ls ++ [cur]) ++ fieldsG [] (l.drop (k + 1)) = fieldsT l := by
          rw [← HL.out.1, hdr]; simp [fieldsG]
        have HL2 := Lib.hid hls2
        clear hls2 hdr hXe
        have hbq : (((32 : UInt8).toNat : Int) == 32) = true := rfl
        go_wp2_with (at_builtin; go_loud (refine wpl_app rfl _ _ rfl elem_str (HF.out.alloc _).own rfl rfl rfl (Sl.new _ _ _) (by simp [Value.oneCell']) (N + 1) rfl _ rfl (by unfold maxLen; omega) (by omega) (HF.out.alloc _).hN ?_; intro s6 c6 w6 h6 hb6 hg6 hob6; have H6 := Lib.hid ((HF.out.alloc _).push h6 hb6); clear h6 hb6 hg6 hob6))
        go_roundw
        case rel => exact ⟨k + 1, N + 1, s6, c6, ls ++ [cur], [], by omega, by go_num, rfl, rfl, by have := HL.out.2; simp; omega, by simp; omega, HL2.out, H6.out⟩
        case measure => simp [intOf]; omega
      · have hls2 : ls ++ fieldsG (cur ++ [b]) (l.drop (k + 1)) = fieldsT l := by
          rw [← HL.out.1, hdr]; simp [fieldsG, h32]
        have HL2 := Lib.hid hls2
        have hbq : ((b.toNat : Int) == 32) = false := by
          simp only [beq_eq_false_iff_ne, ne_eq]
          intro e
          exact h32 (UInt8.toNat_inj.1 (by show b.toNat = 32; omega))
        have hsl : ∀ W : World, (Instr.slice 9 (.string X) (some (.int .i64 (k : Int))) (some (.int .i64 ((k : Int) + 1))) none).run Tryd.prog W = .ok (.string ⟨#[b]⟩) W := fun W => by
          have h := run_slice_string (P := Tryd.prog) W 9 X .i64 .i64 (k : Int) ((k : Int) + 1) Tryd.underlying9 (by omega) (by omega) (by omega)
          rw [h, ← hXe, Int.toNat_natCast, show ((k : Int) + 1).toNat = k + 1 by omega]
        have hc := cat_snoc cur b
        clear hls2 hdr hXe
        go_wp2_with fail
        go_roundw
        case rel => exact ⟨k + 1, N, s, cap, ls, cur ++ [b], by omega, by go_num, rfl, rfl, HL.out.2, by simp; omega, HL2.out, HF.out⟩
        case measure => simp [intOf]; omega
    · obtain rfl : k = l.length := by omega
      have hls2 : ls ++ [cur] = fieldsT l := by
        have h := HL.out.1
        rw [List.drop_length] at h
        exact h
      have HL2 := Lib.hid hls2
      have hN9 : N ≤ 1048576 := by omega
      clear hls2
      go_wp2_with (at_builtin; go_loud (refine wpl_app rfl _ _ rfl elem_str (HF.out.alloc _).own rfl rfl rfl (Sl.new _ _ _) (by simp [Value.oneCell']) (N + 1) rfl _ rfl (by unfold maxLen; omega) (by omega) (HF.out.alloc _).hN ?_; intro s6 c6 w6 h6 hb6 hg6 hob6; have H6 := Lib.hid ((HF.out.alloc _).push h6 hb6); clear h6 hb6 hg6 hob6))
      go_ret
      have hlen : (fieldsT l).length = N + 1 := by rw [← HL2.out, List.length_append, ← HL.out.2]; rfl
      refine ⟨s6, c6, by rw [hlen]; rfl, ?_, H6.out.bel⟩
      rw [hlen, ← HL2.out]
      exact H6.out.own

end Go.Proofs.YtnifgamlmaembaaDoor
