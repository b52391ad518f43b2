import Derived.Test.YtnifgamlmaembaaDoorTB
import Derived.Test.YtnifgamlmaembaaDoorSH
namespace Go.Proofs.YtnifgamlmaembaaDoor
set_option linter.unusedVariables false
set_option linter.unusedSimpArgs false
open Go.RowKit

/-! A line: a word and numbers behind it. -/

theorem plT_dec : ∀ (n : Nat) (acc : Tx), plT n acc = Lib.decDigits n ++ acc := by
  intro n
  induction n using Nat.strongRecOn with
  | _ n ih =>
    intro acc
    rw [plT, Lib.decDigits]
    by_cases h : n ≤ 9
    · rw [if_pos h, dif_pos (by omega)]; rfl
    · rw [if_neg h, dif_neg (by omega), ih (n / 10) (by omega)]; simp
theorem dec_len {n : Nat} (h : n < 100) : (Lib.decDigits n).length ≤ 2 := by
  rw [Lib.decDigits]
  by_cases h1 : n < 10
  · rw [dif_pos h1]; simp
  · rw [dif_neg h1, Lib.decDigits, dif_pos (by omega)]; simp
/-- The numbers of a line. -/
def partT (ns : List Nat) : Tx := (ns.map fun n => 32 :: Lib.decDigits n).flatten
def lineT (word : Tx) (ns : List Nat) : Tx := word ++ partT ns
theorem partT_snoc {ns : List Nat} {k n : Nat} (h : ns[k]? = some n) : partT (ns.take (k + 1)) = partT (ns.take k) ++ (32 :: Lib.decDigits n) := by
  unfold partT
  rw [List.take_add_one, h]; simp
theorem partT_len {ns : List Nat} (h : ∀ n ∈ ns, n < 100) : ∀ k, (partT (ns.take k)).length ≤ 3 * k := by
  intro k
  induction k with
  | zero => simp [partT]
  | succ k ih =>
    by_cases hk : k < ns.length
    · obtain ⟨n, hn⟩ := get_of_lt hk
      rw [partT_snoc hn]
      have := dec_len (h n (List.mem_of_getElem? hn))
      simp; omega
    · rw [List.take_of_length_le (by omega)] at ih
      rw [List.take_of_length_le (by omega)]
      omega
def nats (ns : List Nat) : List Int := ns.map fun (n : Nat) => (n : Int)
theorem nats_get {ns : List Nat} {k n : Nat} (h : ns[k]? = some n) : (nats ns)[k]? = some (n : Int) := by
  unfold nats; rw [List.getElem?_map, h]; rfl
theorem byteCells_append (a b : Tx) : Lib.byteCells a ++ Lib.byteCells b = Lib.byteCells (a ++ b) := by simp [Lib.byteCells]
theorem byteCells_len (a : Tx) : (Lib.byteCells a).length = a.length := by simp [Lib.byteCells]

/-- The builder in block B holds l. -/
def BuW (w : World) (B : Nat) (l : Tx) (W : World) : Prop := Lib.IsBuilderF 81 5 B B (Lib.byteCells l) W ∧ Below w.heap.size w W ∧ w.heap.size = B

theorem wrS {w W : World} {B : Nat} {l : Tx} (h : BuW w B l W) (s : Tx) (hl : l.length + s.length ≤ 1000000) :
    Calls Tryd.prog 56 #[.pointer (some ⟨B, 0, none⟩), sv s] W fun e w' => e = .returned (.tuple #[.int .i64 s.length, .nilIface]) ∧ BuW w B (l ++ s) w' := by
  have hsz : (⟨s.toArray⟩ : ByteArray).size = s.length := by show s.toArray.size = _; simp
  have hB : B ≤ W.heap.size := by rw [← h.2.2]; exact h.2.1.size
  refine (Builder_WriteString_k B B (Lib.byteCells l) ⟨s.toArray⟩ W h.1 (by rw [byteCells_len, hsz]; omega) hB).mono ?_
  rintro e w' ⟨rfl, h1, h2, -⟩
  refine ⟨by rw [hsz], ?_, h.2.1.trans (by have e := h.2.2; subst e; exact h2), h.2.2⟩
  rw [Lib.strCells_eq, byteCells_append] at h1
  exact .inr h1

theorem wrB {w W : World} {B : Nat} {l : Tx} (h : BuW w B l W) (c : UInt8) (hl : l.length ≤ 1000000) :
    Calls Tryd.prog 57 #[.pointer (some ⟨B, 0, none⟩), .int .u8 c.toNat] W fun e w' => e = .returned .nilIface ∧ BuW w B (l ++ [c]) w' := by
  have hB : B ≤ W.heap.size := by rw [← h.2.2]; exact h.2.1.size
  refine (Builder_WriteByte_k B B (Lib.byteCells l) c.toNat W h.1 (by rw [byteCells_len]; omega) hB).mono ?_
  rintro e w' ⟨rfl, h1, h2, -⟩
  refine ⟨rfl, ?_, h.2.1.trans (by have e := h.2.2; subst e; exact h2), h.2.2⟩
  rw [← byteCells_append]
  exact .inr h1
theorem strB {w W : World} {B : Nat} {l : Tx} (h : BuW w B l W) :
    Calls Tryd.prog 59 #[.pointer (some ⟨B, 0, none⟩)] W fun e w' => e = .returned (sv l) ∧ Below w.heap.size w w' := by
  have hB : B ≤ W.heap.size := by rw [← h.2.2]; exact h.2.1.size
  refine (Builder_String_any_k B B l W h.1 hB).mono ?_
  rintro e w' ⟨rfl, h1, h2, -⟩
  exact ⟨rfl, h.2.1.trans (by have e := h.2.2; subst e; exact h2)⟩
theorem buw_new (w : World) : BuW w w.heap.size [] (w.alloc (.cells #[.pointer none, .slice none 0 0] 81)) :=
  ⟨Lib.IsBuilderF.of (.inl ⟨Nat.le_refl _, .slice none 0 0, blk_new _ _, World.ownsRow_nil _ _ _ _, by intro h; cases h⟩), (Below.refl _ _).alloc (Nat.le_refl _) _, rfl⟩

set_option maxHeartbeats 800000 in
theorem line_any (word : Tx) (hw : word.length ≤ 100) (ns : List Nat) (hn : ∀ n ∈ ns, n < 100) (hl : ns.length ≤ 100) (s : Option Addr) (cap : Nat) (w : World) (hs : Sl w s (ints (nats ns))) :
    Calls Tryd.prog 32 #[sv word, .slice s ns.length cap] w fun e w' => e = .returned (sv (lineT word ns)) ∧ Below w.heap.size w w' := by
  have HS := Lib.hid (And.intro hs hn)
  clear hs hn
  obtain ⟨B, hB⟩ : ∃ B, B = w.heap.size := ⟨_, rfl⟩
  have H0 := Lib.hid (buw_new w)
  go_enter Tryd.func32, Tryd.ntmps32
  go_upto_region 2 with fail
  revert H0
  generalize w.alloc (.cells #[.pointer none, .slice none 0 0] 81) = W0
  rw [← hB]
  intro H0
  clear hB
  go_wp2_with (go_at_call 56; refine (wrS H0.out word (by simp; omega)).mono ?_; rintro e w1 ⟨rfl, h1⟩; have H1 := Lib.hid h1; clear h1)
  rw [List.nil_append] at H1
  go_loopw [12] (fun v12 wr => ∃ k : Nat, k ≤ ns.length ∧ v12 = .int .i64 k ∧ BuW w B (word ++ partT (ns.take k)) wr) (fun v12 _ => ns.length - (intOf v12).toNat)
  case atStart => exact ⟨0, Nat.zero_le _, rfl, by simpa [partT] using H1.out⟩
  case round =>
    clear H1 H0
    obtain ⟨k, hk, rfl, hb⟩ := hrel
    have H1 := Lib.hid hb
    clear hb
    have hpl := partT_len HS.out.2 k
    by_cases hlt : k < ns.length
    · obtain ⟨n, hnk⟩ := get_of_lt hlt
      have hn1 := HS.out.2 n (List.mem_of_getElem? hnk)
      obtain ⟨sb, so, rfl, hsb, zs⟩ := HS.out.1.int H1.out.2.1 (nats_get hnk)
      have hd := dec_len hn1
      have HN := Lib.hid (partT_snoc hnk)
      clear hnk
      go_wp2_with (first
        | (go_at_call 57; refine (wrB H1.out 32 (by simp; omega)).mono ?_; rintro e w2 ⟨rfl, h2⟩; have H2 := Lib.hid h2; clear h2)
        | (go_at_call 58; refine (strconv_Itoa_small n hn1 _).mono ?_; rintro e w3 ⟨rfl, rfl⟩)
        | (go_at_call 56; refine (wrS H2.out (Lib.decDigits n) (by simp; omega)).mono ?_; rintro e w4 ⟨rfl, h4⟩; have H4 := Lib.hid h4; clear h4))
      go_roundw
      case rel => exact ⟨k + 1, by omega, by go_num, by rw [HN.out]; simpa using H4.out⟩
      case measure => simp [intOf]; omega
    · obtain rfl : k = ns.length := by omega
      rw [List.take_length] at H1
      go_wp2_with (go_at_call 59; refine (strB H1.out).mono ?_; rintro e w5 ⟨rfl, h5⟩; have H5 := Lib.hid h5; clear h5)
      go_ret
      exact ⟨rfl, H5.out⟩

end Go.Proofs.YtnifgamlmaembaaDoor
