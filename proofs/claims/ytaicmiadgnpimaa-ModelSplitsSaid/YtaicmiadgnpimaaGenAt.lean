/-
  append on one of several owned slices: where the new value's block lies.
-/
import Derived.Test.YtaicmiadgnpimaaGen
import Derived.Maps.AppendAt
namespace Go.Proofs.Ytaicmiadgnpimaa
open Go.RowKit

section
variable {α : Type} {P : Program} {S T : TypeId} {n b : Nat} {z : Value} {enc : α → List Value}
theorem OwnL.kept {w w' : World} {B : Nat} {v : Value} {l : List α} {row : Option Nat} (h : OwnL T n enc w B v l) (hg : w.grownBy w' row) (hne : v.ownBlock = none ∨ v.ownBlock ≠ row) : OwnL T n enc w' B v l := World.ownsRow.kept h hg hne
/-- Two owned slices lie apart. -/
def Apart2 (u v : Value) : Prop := ∀ k, u.ownBlock = some k → v.ownBlock = some k → False
theorem Apart2.symm {u v : Value} (h : Apart2 u v) : Apart2 v u := fun k a b => h k b a
theorem Apart2.nil (v : Value) (a : Nat) : Apart2 (.slice none a a) v := fun _ h => by simp [Value.ownBlock] at h
theorem Apart2.ne {u v : Value} (h : Apart2 u v) : v.ownBlock = none ∨ v.ownBlock ≠ u.ownBlock := by
  cases e : v.ownBlock with
  | none => exact .inl rfl
  | some k => exact .inr fun e2 => h k e2.symm e
/-- append(v, x), the new element's cells in block g; v2 lies apart from v. -/
theorem appL_at (E : ElT P S T n b z enc) {ops : Array Oper} {rest : List Oper} {o : Oper} {a : Act} {Q : Exit → Act → World → Prop} (w : World) (hgd : o.guard = none) (s x : Operand)
    (ho : o.op = .call { callee := .builtin .append, args := #[s, x], argTypes := #[S, S] })
    (B : Nat) (v : Value) (l : List α) (f : α) (hs : a.eval s = v) (hown : OwnL T n enc w B v l) (g : Nat) (c : Nat) (hx : a.eval x = .slice (some ⟨g, 0, none⟩) 1 c)
    (h0 : ∀ i u, (enc f)[i]? = some u → w.cell? ⟨g, i, none⟩ = some u) (hlen : l.length + 1 ≤ maxLen) (hby : (l.length + 1) * b ≤ 140737488355328) (hbase : B ≤ w.heap.size)
    (h : ∀ v' w', OwnL T n enc w' B v' (l ++ [f]) → w.grownBy w' v.ownBlock → (∃ g' c', v' = .slice (some ⟨g', 0, none⟩) (l.length + 1) c') →
      (∀ v2, Apart2 v v2 → (∀ k, v2.ownBlock = some k → k < w.heap.size) → Apart2 v' v2) → wpList P ops Q rest (a.put o.dst v') w') : wpList P ops Q (o :: rest) a w := by
  obtain ⟨i0, hi, hz0, hz1, hz2⟩ := info_parts E.info
  refine wpList_append_own_at w hgd s x S ho B T i0 z n b E.und hi hz0 hz1 hz2 E.zc E.pos v l.length (l.flatMap enc) hs hown ⟨g, 0, none⟩ 1 c (enc f) hx (by rw [E.len, Nat.one_mul]) ?_ (E.one f) hlen hby hbase ?_
  · intro j u hu
    rw [addr_add0]
    exact h0 j u hu
  · intro v' w' h1 h2 _ hat
    have hw : OwnL T n enc w' B v' (l ++ [f]) := by
      unfold OwnL
      rw [List.length_append, List.flatMap_append]
      simpa using h1
    refine h v' w' hw h2 ?_ ?_
    · rcases h1.2 with ⟨_, h0⟩ | ⟨g', cap, cur, hv, _⟩
      · omega
      · exact ⟨g', cap, hv⟩
    · intro v2 ha hlt k hk hk2
      rcases hat with e | e
      · exact ha k (by rw [← e]; exact hk) hk2
      · rw [e] at hk
        have := hlt k hk2
        obtain rfl := Option.some.inj hk
        omega
end
end Go.Proofs.Ytaicmiadgnpimaa
