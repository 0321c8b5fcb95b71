/-
  Walks: the statements WordsJoins, WordsBoth.
-/
import Derived.Test.YtffkohdnhaebjaaDoorW23
import Derived.Test.YtffkohdnhaebjaaDoorW24
import Derived.Test.YtffkohdnhaebjaaDoorW17
import Derived.Test.YtffkohdnhaebjaaDoorLaw1
namespace Go.Proofs.YtffkohdnhaebjaaDoor
open Go.RowKit Go.Shelf

set_option maxHeartbeats 2000000 in
set_option maxRecDepth 100000 in
theorem lawJoins (v : Value) (l : List Wd.Fld) (w : World) (hE : Env w) (h : ReadsF w v l ∧ l.length ≤ 5864062014805) : Calls Tryd.prog 6 #[v] w (TrueB w) := by
  obtain ⟨h1, hl⟩ := h
  have hb0 := Below.refl w.heap.size w
  have HF := Lib.hid (far_any v l w h1 hl)
  have H1 := Lib.hid fun (w' : World) (hb : Below w.heap.size w w') (hl : l.length ≤ 4294967296) => Join_any v l w' (hE.below hb) (h1.below hb) hl
  have H2 := Lib.hid fun (w' : World) (hb : Below w.heap.size w w') (hl : l.length ≤ 4294967296) => rJoin_any v l w' (h1.below hb) hl
  clear h1 hl
  cases hf : Wd.farL l with
  | true =>
    rw [hf] at HF
    clear hf
    go_enter Tryd.func6, Tryd.ntmps6
    go_wp2_with fail; refine (HF.out).mono ?_; rintro e w1 ⟨rfl, hx⟩; have hb1 := hb0.trans (hx.mono hb0.size); clear hx
    go_wp2_with fail; refine (shown_any _ (hE.below hb1)).mono ?_; rintro e w9 ⟨rfl, hx⟩; have hb9 := hb1.trans (hx.mono hb1.size); go_wp2; go_ret; exact ⟨rfl, hb9⟩
  | false =>
    have hl := (Wd.far_false hf).1
    rw [hf] at HF
    clear hf
    unfold joinEnd at H1 H2
    generalize Wd.join l = p at H1 H2
    obtain ⟨t, n⟩ := p
    dsimp only at H1 H2
    go_enter Tryd.func6, Tryd.ntmps6
    go_wp2_with fail; refine (HF.out).mono ?_; rintro e w1 ⟨rfl, hx⟩; have hb1 := hb0.trans (hx.mono hb0.size); clear hx
    go_wp2_with fail; refine (H1.out _ hb1 (by omega)).mono ?_; rintro e w2 ⟨rfl, hx⟩; have hb2 := hb1.trans (hx.mono hb1.size); clear hx
    go_wp2_with fail; refine (H2.out _ hb2 (by omega)).mono ?_; rintro e w3 ⟨rfl, hx⟩; have hb3 := hb2.trans (hx.mono hb2.size); clear hx
    go_wp2_with fail; refine (shown_any _ (hE.below hb3)).mono ?_; rintro e w9 ⟨rfl, hx⟩; have hb9 := hb3.trans (hx.mono hb3.size); go_wp2; go_ret; exact ⟨rfl, hb9⟩
end Go.Proofs.YtffkohdnhaebjaaDoor
