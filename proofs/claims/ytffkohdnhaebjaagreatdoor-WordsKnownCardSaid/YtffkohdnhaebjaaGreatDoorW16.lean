/-
  Walks: the reference's Join.
-/
import Derived.Test.YtffkohdnhaebjaaGreatDoorOwnF
import Derived.Test.YtffkohdnhaebjaaGreatDoorW10
import Derived.Test.YtffkohdnhaebjaaGreatDoorW2
import Derived.Test.YtffkohdnhaebjaaGreatDoorGen
import Derived.Test.YtffkohdnhaebjaaGreatDoorPlain
namespace Go.Proofs.YtffkohdnhaebjaaGreatDoor
open Go.RowKit Go.Shelf

def joinEnd (l : List Wd.Fld) : Ending := .returned (.tuple #[S8 (Wd.join l).1, .int .i64 (Wd.join l).2])
theorem join_long {l : List Wd.Fld} (h : 64 < l.length) : joinEnd l = .returned (.tuple #[.string ⟨#[]⟩, .int .i64 3]) := by unfold joinEnd Wd.join; rw [if_pos h]
theorem join_fld {l : List Wd.Fld} {k : Nat} (h : ¬ 64 < l.length) (hk : k < l.length) (h2 : 2000 < l[k].1.length) : joinEnd l = .returned (.tuple #[.string ⟨#[]⟩, .int .i64 3]) := by
  unfold joinEnd Wd.join; rw [if_neg h, if_pos]
  rw [List.any_eq_true]; exact ⟨l[k], List.getElem_mem _, by simpa using h2⟩
theorem no_any {l : List Wd.Fld} (h2 : ∀ j (hj : j < l.length), l[j].1.length ≤ 2000) : ¬ (l.any (fun f => decide (2000 < f.1.length))) = true := by
  rw [Bool.not_eq_true, List.any_eq_false]
  intro f hf
  obtain ⟨j, hj, rfl⟩ := List.getElem_of_mem hf
  have := h2 j hj
  simp; omega
theorem join_form {l : List Wd.Fld} {k : Nat} (h : ¬ 64 < l.length) (h2 : ∀ j (hj : j < l.length), l[j].1.length ≤ 2000) (hk : k < l.length) (h3 : Wd.okFld l[k] = false) :
    joinEnd l = .returned (.tuple #[.string ⟨#[]⟩, .int .i64 6]) := by
  unfold joinEnd Wd.join; rw [if_neg h, if_neg (no_any h2), if_pos]
  rw [Bool.not_eq_true', List.all_eq_false]; exact ⟨l[k], List.getElem_mem _, by simp [h3]⟩
theorem join_done {l : List Wd.Fld} (h : ¬ 64 < l.length) (h2 : ∀ j (hj : j < l.length), l[j].1.length ≤ 2000) (h3 : ∀ j (hj : j < l.length), Wd.okFld l[j] = true) :
    (8192 < (Lib.join (l.map Wd.word) [32]).length → joinEnd l = .returned (.tuple #[.string ⟨#[]⟩, .int .i64 3])) ∧
    (¬ 8192 < (Lib.join (l.map Wd.word) [32]).length → joinEnd l = .returned (.tuple #[S8 (Lib.join (l.map Wd.word) [32]), .int .i64 0])) := by
  have e : ¬ (!l.all Wd.okFld) = true := by
    rw [Bool.not_eq_true, Bool.not_eq_false', List.all_eq_true]
    intro f hf
    obtain ⟨j, hj, rfl⟩ := List.getElem_of_mem hf
    exact h3 j hj
  unfold joinEnd Wd.join; rw [if_neg h, if_neg (no_any h2), if_neg e]
  constructor
  · intro h4; rw [if_pos h4]
  · intro h4; rw [if_neg h4]
def joinK (l : List Wd.Fld) (k : Nat) : List UInt8 := Lib.join ((l.take k).map Wd.word) [32]
theorem joinK_zero (l : List Wd.Fld) : joinK l 0 = [] := by simp [joinK, Lib.join_nil]
theorem joinK_first {l : List Wd.Fld} (h : 0 < l.length) : joinK l 1 = Wd.word l[0] := by
  unfold joinK; rw [List.take_succ_eq_append_getElem h]; simp [Lib.join_one]
theorem joinK_next {l : List Wd.Fld} {k : Nat} (h : k < l.length) (h0 : 0 < k) : joinK l (k + 1) = joinK l k ++ [32] ++ Wd.word l[k] := by
  unfold joinK
  rw [List.take_succ_eq_append_getElem h, List.map_append, List.map_singleton, Wd.join_snoc, if_neg, List.append_assoc]
  intro e
  have := congrArg List.length e
  rw [List.length_map, List.length_take, List.length_nil] at this
  omega
theorem word_le (f : Wd.Fld) (h : f.1.length ≤ 2000) : (Wd.word f).length ≤ 8002 := by
  unfold Wd.word
  split
  · unfold Wd.quote
    have := flat_len f.1
    simp only [List.length_cons, List.length_append, List.length_nil]; omega
  · omega
theorem joinK_le {l : List Wd.Fld} (h2 : ∀ j (hj : j < l.length), l[j].1.length ≤ 2000) : ∀ k, k ≤ l.length → (joinK l k).length ≤ 8003 * k := by
  intro k
  induction k with
  | zero => intro _; rw [joinK_zero]; simp
  | succ k ih =>
    intro hk
    have h3 := word_le l[k] (h2 k (by omega))
    by_cases h0 : k = 0
    · subst h0; rw [joinK_first (by omega)]; omega
    · rw [joinK_next (by omega) (by omega), List.length_append, List.length_append]
      have := ih (by omega)
      simp only [List.length_cons, List.length_nil]; omega
theorem joinK_all {l : List Wd.Fld} {k : Nat} (h : l.length ≤ k) : joinK l k = Lib.join (l.map Wd.word) [32] := by unfold joinK; rw [List.take_of_length_le h]

theorem bcat (a b : List UInt8) : ((⟨a.toArray⟩ : ByteArray) ++ (⟨b.toArray⟩ : ByteArray)) = ⟨(a ++ b).toArray⟩ := by
  apply ByteArray.ext
  simp
theorem cat3 (a c : List UInt8) : Value.string ((⟨a.toArray⟩ : ByteArray) ++ (⟨#[32]⟩ : ByteArray) ++ (⟨c.toArray⟩ : ByteArray)) = S8 (a ++ [32] ++ c) := by
  have h : (⟨#[32]⟩ : ByteArray) = ⟨[32].toArray⟩ := rfl
  rw [h, bcat, bcat]
theorem cat0 {l : List Wd.Fld} {k : Nat} (hlt : k < l.length) (h0 : k = 0) : Value.string ((⟨(joinK l k).toArray⟩ : ByteArray) ++ (⟨(Wd.word l[k]).toArray⟩ : ByteArray)) = S8 (joinK l (k + 1)) := by
  subst h0
  rw [joinK_first hlt, joinK_zero, bcat]; rfl
theorem size_mk (x : List UInt8) : (⟨x.toArray⟩ : ByteArray).size = x.length := by
  show x.toArray.size = _
  simp
end Go.Proofs.YtffkohdnhaebjaaGreatDoor
