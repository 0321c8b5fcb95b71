/-
  What the package-level variables hold (Env), and the walks: names, decimal forms, Int, Digits of words.
-/
import Derived.Test.YtgnhbccmdpkbiaaDoorW3
import Derived.Test.YtgnhbccmdpkbiaaDoorShelf
import Derived.Shelf.Strings.SlTrimAscii
import Derived.BigQuiet
import Derived.WalkSmall
import Derived.Deep.QuietTactic
namespace Go.Proofs.YtgnhbccmdpkbiaaDoor
open Go.RowKit Go.Shelf

theorem g3 : Tryd.prog.globalNamed "internal/strconv.uint64pow10" = some 2 := by kernel_rfl
theorem below_of_eq {w w' : World} (h : w' = w) : Below w.heap.size w w' := by subst h; exact Below.refl _ _
theorem below_grow {w w' : World} (h : ∃ k os, w' = Sort.grow (w.drewN k) os) : Below w.heap.size w w' := by
  obtain ⟨k, os, rfl⟩ := h
  refine ⟨rfl, rfl, rfl, ?_, ?_⟩
  · simp [Sort.grow]
  · intro j hj; simp [Sort.grow, Array.getElem?_append, hj]

theorem mk_eq_nil {l : List UInt8} (h : l = []) : (⟨l.toArray⟩ : ByteArray) = ⟨#[]⟩ := by subst h; rfl

/-- strings.Trim at the two cutsets that words uses, against the empty string. -/
theorem trim_any (s cs : ByteArray) (w : World) (hs : s.size ≤ maxLen) (hcs : cs.size < 4294967281) (hascii : ∀ (j : Nat) b, cs.data.toList[j]? = some b → b.toNat < 128) :
    Calls Tryd.prog 49 #[.string s, .string cs] w fun e w' => e = .returned (.string ⟨(Lib.trimS s.data.toList cs.data.toList).toArray⟩) ∧ Below w.heap.size w w' :=
  Any.strings_Trim_laid Tryd.lays160 (by kernel_rfl) s cs w (by unfold maxLen at hs; omega) hcs hascii

theorem isEmpty_mk (l : List UInt8) : (⟨l.toArray⟩ : ByteArray).toList.isEmpty = (l == []) := by
  rw [Lib.toList_data]; cases l <;> rfl
theorem isEmpty_beq (l : List UInt8) : l.isEmpty = (l == []) := by cases l <;> rfl

set_option maxHeartbeats 2000000 in
set_option maxRecDepth 100000 in
theorem name_any (s : ByteArray) (w : World) (hs : s.size ≤ maxLen) : Calls Tryd.prog 40 #[.string s] w fun e w' => e = .returned (.bool (Wd.name s.data.toList)) ∧ Below w.heap.size w w' := by
  have hs0 := hs
  unfold maxLen at hs
  by_cases h1 : s.size < 1
  · have he : s.toList.isEmpty = true := by rw [Lib.toList_data, List.isEmpty_iff]; exact List.eq_nil_of_length_eq_zero (by rw [← size_list]; omega)
    go_enter Tryd.func40, Tryd.ntmps40
    go_wp2
    go_ret
    exact ⟨ret_bool (by rw [Wd.name_empty (by rw [← size_list]; exact h1)]), Below.refl _ _⟩
  have he : s.toList.isEmpty = false := by
    rw [Lib.toList_data, list_cons (s := s) (by omega)]; rfl
  by_cases h16 : 16 < s.size
  · go_enter Tryd.func40, Tryd.ntmps40
    go_wp2
    go_ret
    exact ⟨ret_bool (by rw [Wd.name_long (by rw [← size_list]; exact h16)]), Below.refl _ _⟩
  have hc := list_cons (s := s) (by omega)
  have hpos : 0 < s.size := by omega
  by_cases ha : (97 : Int) ≤ s[0].toNat
  · by_cases hz : (s[0].toNat : Int) ≤ 122
    · have hl : Wd.lower s[0] = true := by rw [lower_eq]; simp; omega
      have HN : Hid (Wd.name s.data.toList = s.data.toList.all Wd.nameCh) := by
        show Wd.name s.data.toList = _
        have hlen : s.data.toList.length ≤ 16 := by rw [← size_list]; omega
        rw [hc] at hlen ⊢; exact Wd.name_all hl hlen
      clear hc hl
      go_enter Tryd.func40, Tryd.ntmps40
      go_wp2_with (go_at_call 49; refine (trim_any _ _ _ hs0 (by decide) (ascii_of_all (by decide))).mono ?_; rintro e w' ⟨rfl, hb⟩)
      go_ret
      refine ⟨ret_bool ?_, ‹_›⟩
      rw [HN.out, ← Wd.trim_name]
      exact isEmpty_beq _
    · have hl : Wd.lower s[0] = false := by rw [lower_eq]; simp; omega
      have HN : Hid (Wd.name s.data.toList = false) := by rw [hc]; exact Wd.name_head hl
      clear hc hl
      go_enter Tryd.func40, Tryd.ntmps40
      go_wp2
      go_ret
      exact ⟨ret_bool (by rw [HN.out]), Below.refl _ _⟩
  · have hl : Wd.lower s[0] = false := by rw [lower_eq]; simp; omega
    have HN : Hid (Wd.name s.data.toList = false) := by rw [hc]; exact Wd.name_head hl
    clear hc hl
    go_enter Tryd.func40, Tryd.ntmps40
    go_wp2
    go_ret
    exact ⟨ret_bool (by rw [HN.out]), Below.refl _ _⟩
end Go.Proofs.YtgnhbccmdpkbiaaDoor
