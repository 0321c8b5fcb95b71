/-
  Plain laws for layer 26 (model): what ModelEnds asks of the calls behind MdClose. No program in this text.
-/
import Derived.Test.YtaicmiadgnpimaaMgm
namespace Md

theorem outcomes_zero {s : State} {c : Call} (hg : Good s) (hw : wrong s c = 0) : (outcomes s c).2 = 0 := by
 unfold outcomes
 rw [if_neg (by rw [check_ok.2 hg]; simp), if_neg (by rw [hw]; simp)]
/-- Behind MdClose nobody waits, nothing is idle. -/
theorem shut_quiet {s : State} (hg : Good s) (hs : s.shut = true) {b : Nat} (hb : b < s.pools.length) : s.pools[b].waiters = [] ∧ s.pools[b].idle = [] := by
 have q2 := hg.quiet _ (List.getElem_mem hb)
 unfold quietOk at q2
 rw [hs] at q2
 simpa [List.isEmpty_iff] using q2
theorem call_pos {s : State} (hg : Good s) {n : Int} (hn : n ∈ calls s) : 1 ≤ n := (numsOk_iff.1 hg.calls).1 n hn
theorem calls_mem {s : State} {b : Nat} (hb : b < s.pools.length) {n : Int} (hn : n ∈ pcalls s.pools[b]) : n ∈ calls s := List.mem_flatMap.2 ⟨_, List.getElem_mem hb, hn⟩
def setDials (s : State) (b : Nat) (hb : b < s.pools.length) (D : List Dial) : State := { s with pools := s.pools.set b { s.pools[b] with dials := D } }
def setLeases (s : State) (b : Nat) (hb : b < s.pools.length) (L : List Lease) : State := { s with pools := s.pools.set b { s.pools[b] with leases := L } }
theorem pool_nat {s : State} {b : Nat} (hb : b < s.pools.length) : pool s (b : Int) = s.pools[b] := by
 unfold pool
 rw [Int.toNat_natCast, List.getD_eq_getElem?_getD, List.getElem?_eq_getElem hb]
 rfl
/-- A dial is reported. -/
theorem end_dial {s : State} (hg : Good s) (hs : s.shut = true) {b : Nat} (hb : b < s.pools.length) {cl : Int} {g : Bool} {D : List Dial} (hd : s.pools[b].dials = (cl, g) :: D) {cn : Int} (h1 : 1 ≤ cn) (hn : cn ∉ conns s) (yes : Bool) :
 wrong s ⟨2, b, cl, cn, 0, yes, 0, 0⟩ = 0 ∧ ∀ o ∈ act s ⟨2, b, cl, cn, 0, yes, 0, 0⟩, o.next = setDials s b hb D := by
 have hp := pool_nat hb
 have hcl : 1 ≤ cl := call_pos hg (calls_mem hb (by unfold pcalls; rw [hd]; simp))
 obtain ⟨hw, _⟩ := shut_quiet hg hs hb
 constructor
 · unfold wrong
   have hbf : badFields s ⟨2, b, cl, cn, 0, yes, 0, 0⟩ = false := by
    unfold badFields
    have hu : uses 2 = (true, true, true, false, false, false) := rfl
    simp only [hu]
    simp
    omega
   rw [hbf]
   simp only [Bool.false_eq_true, if_false]
   rw [if_neg (by decide), if_pos trivial, hp]
   have hhd : hasDial s.pools[b] cl = true := by
    unfold hasDial
    rw [hd]
    simp
   rw [hhd]
   have hcn : (conns s).contains cn = false := by
    simpa using hn
   simp [hn]
 · intro o ho
   unfold act at ho
   dsimp only at ho
   rw [if_neg (by decide), if_pos rfl, List.mem_singleton] at ho
   subst ho
   rw [hp]
   have hix : dialIx s.pools[b] cl = 0 := by
    unfold dialIx
    rw [hd, List.findIdx_cons]
    simp
   have hpass : ∀ q : Pool, q.waiters = [] → (pass (b : Int) q).1 = q := fun q hq => by
    unfold pass
    rw [hq]
   have hgive : ∀ (q : Pool) (x y : Int) (z : Bool), q.waiters = [] → (give s.shut s.now (b : Int) q x y z).1 = q := fun q x y z hq => by
    unfold give
    rw [if_pos (by rw [hs]; rfl)]
    exact hpass q hq
   unfold dialled setPool setDials
   dsimp only
   rw [hix, hd, Int.toNat_natCast]
   have he : ((cl, g) :: D).eraseIdx 0 = D := rfl
   rw [he]
   congr 2
   split
   · exact hpass _ hw
   · split
     · exact hgive _ _ _ _ hw
     · rfl
/-- A lease is freed. -/
theorem end_lease {s : State} (hg : Good s) (hs : s.shut = true) {b : Nat} (hb : b < s.pools.length) {cl cn bn : Int} {L : List Lease} (hd : s.pools[b].leases = (cl, cn, bn) :: L) (yes : Bool) :
 wrong s ⟨3, b, cl, 0, 0, yes, 0, 0⟩ = 0 ∧ ∀ o ∈ act s ⟨3, b, cl, 0, 0, yes, 0, 0⟩, o.next = setLeases s b hb L := by
 have hp := pool_nat hb
 have hcl : 1 ≤ cl := call_pos hg (calls_mem hb (by unfold pcalls; rw [hd]; simp))
 obtain ⟨hw, _⟩ := shut_quiet hg hs hb
 constructor
 · unfold wrong
   have hbf : badFields s ⟨3, b, cl, 0, 0, yes, 0, 0⟩ = false := by
    unfold badFields
    have hu : uses 3 = (true, true, false, false, false, false) := rfl
    simp only [hu]
    simp
    omega
   rw [hbf]
   simp only [Bool.false_eq_true, if_false]
   rw [if_neg (by decide), if_neg (by decide), if_pos trivial, hp]
   have hhd : hasLease s.pools[b] cl = true := by
    unfold hasLease
    rw [hd]
    simp
   rw [hhd]
   rfl
 · intro o ho
   unfold act at ho
   dsimp only at ho
   rw [if_neg (by decide), if_neg (by decide), if_pos rfl, List.mem_singleton] at ho
   subst ho
   rw [hp]
   have hix : leaseIx s.pools[b] cl = 0 := by
    unfold leaseIx
    rw [hd, List.findIdx_cons]
    simp
   unfold free setPool setLeases
   dsimp only
   rw [hix, hd, Int.toNat_natCast]
   have he : ((cl, cn, bn) :: L).eraseIdx 0 = L := rfl
   rw [he]
   dsimp only [List.getElem?_cons_zero]
   congr 2
   unfold give
   rw [if_pos (by rw [hs]; rfl)]
   unfold pass
   dsimp only
   rw [hw]
/-- MdClose. -/
theorem end_close (s : State) : wrong s ⟨6, 0, 0, 0, 0, false, 0, 0⟩ = 0 ∧ ∀ o ∈ act s ⟨6, 0, 0, 0, 0, false, 0, 0⟩, o.next.shut = true := by
 constructor
 · unfold wrong
   have hbf : badFields s ⟨6, 0, 0, 0, 0, false, 0, 0⟩ = false := by
    unfold badFields
    have hu : uses 6 = (false, false, false, false, false, false) := rfl
    simp only [hu]
    simp
   rw [hbf]
   simp
 · intro o ho
   unfold act at ho
   dsimp only at ho
   rw [if_neg (by decide), if_neg (by decide), if_neg (by decide), if_neg (by decide), if_neg (by decide), if_pos rfl, List.mem_singleton] at ho
   subst ho
   rfl
/-- The first b backends have neither leases nor dials. -/
def gone0 (s : State) (b : Nat) : Prop := ∀ j (hj : j < s.pools.length), j < b → s.pools[j].leases = [] ∧ s.pools[j].dials = []
theorem gone0_dials {s : State} {b : Nat} (hb : b < s.pools.length) {D : List Dial} (h : gone0 s b) : gone0 (setDials s b hb D) b := by
 intro j hj hjb
 have hj' : j < s.pools.length := by simpa [setDials] using hj
 have e : (setDials s b hb D).pools[j] = s.pools[j] := by
  simp only [setDials]
  exact List.getElem_set_ne (by omega) _
 rw [e]
 exact h j hj' hjb
theorem gone0_leases {s : State} {b : Nat} (hb : b < s.pools.length) {L : List Lease} (h : gone0 s b) : gone0 (setLeases s b hb L) b := by
 intro j hj hjb
 have hj' : j < s.pools.length := by simpa [setLeases] using hj
 have e : (setLeases s b hb L).pools[j] = s.pools[j] := by
  simp only [setLeases]
  exact List.getElem_set_ne (by omega) _
 rw [e]
 exact h j hj' hjb
theorem gone0_next {s : State} {b : Nat} (hb : b < s.pools.length) (h : gone0 s b) (h1 : s.pools[b].leases = []) (h2 : s.pools[b].dials = []) : gone0 s (b + 1) := by
 intro j hj hjb
 by_cases e : j = b
 · subst e
   exact ⟨h1, h2⟩
 · exact h j hj (by omega)
theorem gone_all {s : State} (hg : Good s) (hs : s.shut = true) (h : gone0 s s.pools.length) : calls s = [] ∧ conns s = [] := by
 constructor
 · refine List.flatMap_eq_nil_iff.2 fun p hp => ?_
   obtain ⟨j, hj, rfl⟩ := List.getElem_of_mem hp
   obtain ⟨h1, h2⟩ := h j hj hj
   obtain ⟨h3, h4⟩ := shut_quiet hg hs hj
   unfold pcalls
   rw [h1, h2, h3]
   rfl
 · refine List.flatMap_eq_nil_iff.2 fun p hp => ?_
   obtain ⟨j, hj, rfl⟩ := List.getElem_of_mem hp
   obtain ⟨h1, h2⟩ := h j hj hj
   obtain ⟨h3, h4⟩ := shut_quiet hg hs hj
   unfold pconns
   rw [h1, h4]
   rfl
/-- Behind MdClose: the dials of backend b have been reported up to k; its leases stand. -/
def DlAt (D : List Dial) (L : List Lease) (b k n : Nat) (s : State) : Prop := s.shut = true ∧ gone0 s b ∧ s.pools.length = n ∧ ∃ hb : b < s.pools.length, s.pools[b].dials = D.drop k ∧ s.pools[b].leases = L
/-- Behind MdClose: backend b has no dials; its leases have been freed up to k. -/
def LsAt (L : List Lease) (b k n : Nat) (s : State) : Prop := s.shut = true ∧ gone0 s b ∧ s.pools.length = n ∧ ∃ hb : b < s.pools.length, s.pools[b].dials = [] ∧ s.pools[b].leases = L.drop k
theorem DlAt.step {D : List Dial} {L : List Lease} {b k n : Nat} {s : State} (h : DlAt D L b k n s) (hg : Good s) (hk : k < D.length) {cn : Int} (h1 : 1 ≤ cn) (hn : cn ∉ conns s) (yes : Bool) :
 wrong s ⟨2, b, D[k].1, cn, 0, yes, 0, 0⟩ = 0 ∧ ∀ o ∈ act s ⟨2, b, D[k].1, cn, 0, yes, 0, 0⟩, DlAt D L b (k + 1) n o.next := by
 obtain ⟨hs, h0, hn0, hb, hd, hl⟩ := h
 rw [List.drop_eq_getElem_cons hk] at hd
 have q := end_dial (cl := D[k].1) (g := D[k].2) hg hs hb hd h1 hn yes
 refine ⟨q.1, fun o ho => ?_⟩
 rw [q.2 o ho]
 refine ⟨hs, gone0_dials hb h0, by simpa [setDials] using hn0, by simpa [setDials] using hb, by simp [setDials], by simpa [setDials] using hl⟩
theorem DlAt.end {D : List Dial} {L : List Lease} {b n : Nat} {s : State} (h : DlAt D L b D.length n s) : LsAt L b 0 n s := by
 obtain ⟨hs, h0, hn0, hb, hd, hl⟩ := h
 exact ⟨hs, h0, hn0, hb, by rw [hd, List.drop_length], by rw [hl]; rfl⟩
theorem LsAt.step {L : List Lease} {b k n : Nat} {s : State} (h : LsAt L b k n s) (hg : Good s) (hk : k < L.length) (yes : Bool) :
 wrong s ⟨3, b, L[k].1, 0, 0, yes, 0, 0⟩ = 0 ∧ ∀ o ∈ act s ⟨3, b, L[k].1, 0, 0, yes, 0, 0⟩, LsAt L b (k + 1) n o.next := by
 obtain ⟨hs, h0, hn0, hb, hd, hl⟩ := h
 rw [List.drop_eq_getElem_cons hk] at hl
 have q := end_lease (cl := L[k].1) (cn := L[k].2.1) (bn := L[k].2.2) hg hs hb hl yes
 refine ⟨q.1, fun o ho => ?_⟩
 rw [q.2 o ho]
 refine ⟨hs, gone0_leases hb h0, by simpa [setLeases] using hn0, by simpa [setLeases] using hb, by simpa [setLeases] using hd, by simp [setLeases]⟩
theorem LsAt.end {L : List Lease} {b n : Nat} {s : State} (h : LsAt L b L.length n s) : s.shut = true ∧ gone0 s (b + 1) ∧ s.pools.length = n := by
 obtain ⟨hs, h0, hn0, hb, hd, hl⟩ := h
 exact ⟨hs, gone0_next hb h0 (by rw [hl, List.drop_length]) hd, hn0⟩
end Md
