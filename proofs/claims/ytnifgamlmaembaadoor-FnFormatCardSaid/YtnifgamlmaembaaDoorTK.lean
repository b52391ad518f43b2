import Derived.Test.YtnifgamlmaembaaDoorTJ
namespace Go.Proofs.YtnifgamlmaembaaDoor
set_option linter.unusedVariables false
set_option linter.unusedSimpArgs false
open Go.RowKit

/-! Split and Index as contracts on lists of bytes. -/

theorem splitB_fields (l : Tx) : (Lib.splitB ⟨#[32]⟩ 0 (Lib.countB ⟨l.toArray⟩ ⟨#[32]⟩) ⟨l.toArray⟩).map Value.string = strs (fieldsT l) := by
  have h := Lib.splitB_data ⟨#[32]⟩ 0 (Lib.countB ⟨l.toArray⟩ ⟨#[32]⟩) ⟨l.toArray⟩
  have e : Lib.splitK (⟨#[32]⟩ : ByteArray).data.toList 0 (Lib.countB ⟨l.toArray⟩ ⟨#[32]⟩) (⟨l.toArray⟩ : ByteArray).data.toList = fieldsT l := by
    rw [← split_fields]; rfl
  rw [e] at h
  rw [← h]
  unfold strs
  rw [List.map_map]
  refine List.map_congr_left fun x _ => ?_
  show Value.string x = sv x.data.toList
  unfold sv
  simp
theorem split_any (l : Tx) (hl : l.length ≤ 1048576) (w : World) (hg : Gl w) :
    Calls Tryd.prog 40 #[sv l, .string ⟨#[32]⟩] w fun e w' => e = .returned (.slice (some ⟨w.heap.size, 0, none⟩) (fieldsT l).length (fieldsT l).length) ∧ w' = w.alloc (.cells (strs (fieldsT l)).toArray 9) := by
  obtain ⟨m, hm⟩ := hg.m
  have hsz : (⟨l.toArray⟩ : ByteArray).size = l.length := size_mk l
  have hc : Lib.countB ⟨l.toArray⟩ ⟨#[32]⟩ + 1 = (fieldsT l).length := by
    have h := congrArg List.length (splitB_fields l)
    rw [List.length_map, Lib.splitB_all ⟨#[32]⟩ (by decide) 0 _ _ rfl, strs_len] at h
    exact h
  refine (strings_Split ⟨l.toArray⟩ ⟨#[32]⟩ m w (by omega) hm (by decide)).mono ?_
  rintro e w' ⟨rfl, rfl⟩
  rw [splitB_fields, hc]
  exact ⟨rfl, rfl⟩

theorem idx_kind (x : Tx) : Lib.idxOfS [⟨inputsW.toArray⟩, ⟨latchW.toArray⟩, ⟨gateW.toArray⟩, ⟨outW.toArray⟩] ⟨x.toArray⟩ = kindT x := by
  have hq : ∀ a : Tx, ((⟨a.toArray⟩ : ByteArray) = ⟨x.toArray⟩) ↔ x = a := fun a => by rw [ba_eq]; exact eq_comm
  unfold kindT
  by_cases h1 : x = inputsW
  · subst h1; decide +kernel
  · by_cases h2 : x = latchW
    · subst h2; decide +kernel
    · by_cases h3 : x = gateW
      · subst h3; decide +kernel
      · by_cases h4 : x = outW
        · subst h4; decide +kernel
        · rw [if_neg h1, if_neg h2, if_neg h3, if_neg h4]
          simp [Lib.idxOfS, Lib.idxFromS, hq, h1, h2, h3, h4]

theorem kind_any (b : Nat) (x : Tx) (w : World) (hb : ∀ o, w.cell? ⟨b, o, none⟩ = #[sv inputsW, sv latchW, sv gateW, sv outW][o]?) :
    Calls Tryd.prog 41 #[.slice (some ⟨b, 0, none⟩) 4 4, sv x] w fun e w' => e = .returned (.int .i64 (kindT x)) ∧ w' = w := by
  refine (slices_Index_string b 0 4 4 [⟨inputsW.toArray⟩, ⟨latchW.toArray⟩, ⟨gateW.toArray⟩, ⟨outW.toArray⟩] ⟨x.toArray⟩ w (by decide) (by decide) (fun j hj => ?_)).mono ?_
  · rw [Nat.zero_add, hb j]
    match j, hj with
    | 0, _ => rfl
    | 1, _ => rfl
    | 2, _ => rfl
    | 3, _ => rfl
    | j + 4, hj => simp at hj; omega
  · rintro e w' ⟨rfl, rfl⟩
    rw [List.take_of_length_le (by decide), idx_kind]
    exact ⟨rfl, rfl⟩

end Go.Proofs.YtnifgamlmaembaaDoor
