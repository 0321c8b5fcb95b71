/-
  Walks for layer 3 (faults): Chain; is of the statements.
-/
import Derived.Test.YtgnhbccmdpkbiaaDoorFaw5
import Derived.Test.YtgnhbccmdpkbiaaDoorFaw1b
namespace Go.Proofs.YtgnhbccmdpkbiaaDoor
open Go.RowKit

theorem one_ne {S : Nat → Prop} {w : World} {t : Fa.F} {v : Value} (h : Holds S w t [v]) : 1 ≤ t.nodes := by
  have h1 := h.len
  have := Fa.len_le_nodes t
  simp at h1
  omega
def ChainPost (t : Fa.F) (w : World) (e : Ending) (w' : World) : Prop := ∃ sv, e = .returned (.tuple #[sv, I64 0]) ∧ OwnL 67 6 encNode w' w.heap.size sv (t.chain 0) ∧ Below w.heap.size w w'
set_option maxRecDepth 100000 in
theorem chain_any (S : Nat → Prop) (t : Fa.F) (v : Value) (w : World) (h : Holds S w t [v]) (hok : t.ok) (hn : t.nodes ≤ 100000) : Calls Tryd.prog 6 #[v] w (ChainPost t w) := by
  have hgn := Fa.hgt_le_nodes t
  have HM := Lib.hid (measure_any S t v w h)
  have hp := one_ne h
  have HW : Hid (∀ w1, Below w.heap.size w w1 → Calls Tryd.prog 25 #[.slice none 0 0, v, I64 0] w1 (WalkPost t 0 (.slice none 0 0) [] w1 w.heap.size)) := fun w1 hb =>
    walkC_all t.nodes t 0 (.slice none 0 0) [] w1 w.heap.size v S (Nat.le_refl _) (h.below hb) hok (OwnL.nil _ _) (fun b _ => by simp [Value.ownBlock]) (by omega) (by omega) (by simp; omega) hb.size
  obtain ⟨ty, p, rfl⟩ := h.iface
  have hm1 : ((t.nodes : Int) == 0) = false := by rw [beq_eq_false_iff_ne]; omega
  generalize t.hgt - 1 = d at HM
  clear h hok hgn
  go_enter Tryd.func6, Tryd.ntmps6
  go_wp2_with (first | (go_at_call 24; refine HM.out.mono ?_; rintro e w1 ⟨rfl, hb1⟩) | (go_at_call 25; refine (HW.out _ hb1).mono ?_; rintro e w2 ⟨v2, rfl, hown2, hgr2, _⟩))
  go_ret2
  exact ⟨_, rfl, by simpa using hown2, hb1.grown hgr2 hb1.size (fun k hk => by cases hk)⟩
theorem chain_nil (w : World) : Calls Tryd.prog 6 #[.nilIface] w fun e w' => e = .returned (.tuple #[.slice none 0 0, I64 1]) ∧ w' = w := by
  go_enter Tryd.func6, Tryd.ntmps6
  go_wp2
  go_ret2
  exact ⟨rfl, rfl⟩
end Go.Proofs.YtgnhbccmdpkbiaaDoor
