/-
  Walks for layer 26 (model): waiters and idle connections leave.
-/
import Derived.Test.YtaicmiadgnpimaaMgf
import Derived.Test.YtaicmiadgnpimaaMge
namespace Go.Proofs.Ytaicmiadgnpimaa
open Go.RowKit

theorem Gb.cellOf {S : Nat → Prop} {w w' : World} (h : Gb S w w') {b : Nat} (hn : ¬ S b) {o : Nat} {v : Value} (hc : w.cell? ⟨b, o, none⟩ = some v) : w'.cell? ⟨b, o, none⟩ = some v := (h.cell (a := ⟨b, o, none⟩) (cell_lt hc) hn).trans hc
theorem map_filter_take {α β : Type} (q : α → Bool) (f : α → β) (l : List α) (k : Nat) (hk : k < l.length) : ((l.take (k + 1)).filter (fun x => !q x)).map f = ((l.take k).filter (fun x => !q x)).map f ++ (if q l[k] = true then [] else [f l[k]]) := by
  rw [filter_take (fun x => !q x) l k hk, List.map_append]
  cases h : q l[k] <;> simp
set_option maxRecDepth 100000 in
theorem dfWaiter_nil (a : Option Addr) (f cap : Nat) (lb : Array Value) (w : World) : Calls Try.prog 95 #[.slice a 0 cap, .func (.func f) #[] lb] w fun e w' => e = .returned (.slice a 0 cap) ∧ w' = w := by
  have HIX : Hid (Calls Try.prog 85 #[.slice a 0 cap, .func (.func f) #[] lb] w fun e w' => e = .returned (I64 (-1)) ∧ w' = w) := by
    show Hid (Calls _ _ _ _ _)
    refine Lib.hid ?_
    go_enter Try.func85, Try.ntmps85
    go_wp2
    go_loopw [5, 8] (fun _ jv wr => jv = .int .i64 0 ∧ wr = w) (fun _ _ _ => 0)
    case atStart => exact ⟨rfl, rfl⟩
    case round =>
      obtain ⟨rfl, rfl⟩ := hrel
      go_wp2
      go_ret
      exact ⟨rfl, rfl⟩
  go_enter Try.func95, Try.ntmps95
  go_wp2_with fail
  refine HIX.out.mono ?_
  rintro e w1 ⟨rfl, rfl⟩
  go_wp2
  go_ret
  exact ⟨rfl, rfl⟩
theorem dfW_run (S : Nat → Prop) (R G n cap b A1 A2 A3 : Nat) (kd : Int) (c : Md.Call) (s : Md.State) (es : List Md.Effect) (ev : SlV) (pvs : List PoolV) (w : World) (h : RunV S R c s es (fun _ => True) (some ⟨G, 0, none⟩, n, cap) ev pvs w) (hbp : b < pvs.length) (hbn : b < s.pools.length)
    (a1 : w.cell? ⟨A1, 0, none⟩ = some (.pointer (some ⟨R, 0, none⟩))) (a2 : w.cell? ⟨A2, 0, none⟩ = some (I64 kd)) (a3 : w.cell? ⟨A3, 0, none⟩ = some (I64 b)) (n1 : ¬ S A1) (n2 : ¬ S A2) (n3 : ¬ S A3) (hl : s.pools[b].waiters.length ≤ 1000000) (hel : es.length + s.pools[b].waiters.length ≤ 900000) :
    Calls Try.prog 95 #[valS pvs[b].vW, .func (.func 96) #[] #[.pointer (some ⟨A1, 0, none⟩), .pointer (some ⟨A2, 0, none⟩), .pointer (some ⟨A3, 0, none⟩)]] w fun e w' => ∃ u', e = .returned (valS u') ∧ (w'.cell? ⟨G, b * 11 + 7, none⟩ = some (valS pvs[b].vW) ∧ w'.frozen? ⟨G, b * 11 + 7, none⟩ = false) ∧ (∀ x, x < w.heap.size → ¬ S x → w'.heap[x]? = w.heap[x]?) ∧
      RunE S R c (setP s b { s.pools[b] with waiters := s.pools[b].waiters.filter (fun x => Md.stays s.shut s.now x) }) (es ++ (s.pools[b].waiters.filter (fun x => !(fun x => Md.stays s.shut s.now x) x)).map (fun x => (kd, (b : Int), x.1, (0 : Int)))) (fun _ => True) G n cap (w'.setCell ⟨G, b * 11 + 7, none⟩ (valS u')) ∧ Gb S w (w'.setCell ⟨G, b * 11 + 7, none⟩ (valS u')) := by
  have hSG : S G := h.sub G (by simp [owns, obS])
  have hown := (h.each b hbp hbn).wown trivial
  by_cases hnil : ∃ g cp, pvs[b].vW = (some ⟨g, 0, none⟩, s.pools[b].waiters.length, cp)
  · obtain ⟨g, cp, hv⟩ := hnil
    have hob : obS pvs[b].vW = some g := by rw [hv]; rfl
    have hmem : some g ∈ ob4 pvs[b] := by rw [← hob]; simp [ob4]
    have hSg : S g := h.subP hbp hmem
    rw [hv] at hown
    rw [hv]
    show Calls _ _ #[.slice (some ⟨g, 0, none⟩) s.pools[b].waiters.length cp, _] _ _
    refine (dfWaiter g cp s.pools[b].waiters (fun x => !(fun x => Md.stays s.shut s.now x) x) (fun x => Md.stays s.shut s.now x) (fun x => rfl) _ _
      (fun k l' w1 => ∃ ev', RunV S R c (setP s b { s.pools[b] with waiters := l' }) (es ++ ((s.pools[b].waiters.take k).filter (fun x => !(fun x => Md.stays s.shut s.now x) x)).map (fun x => (kd, (b : Int), x.1, (0 : Int)))) (fun _ => True) (some ⟨G, 0, none⟩, n, cap) ev' pvs w1 ∧ Gb S w w1)
      (fun X k l' w1 => w.heap.size ≤ X ∧ ∃ ev', RunV (fun i => S i ∧ i ≠ X) R c (setP s b { s.pools[b] with waiters := l' }) (es ++ ((s.pools[b].waiters.take k).filter (fun x => !(fun x => Md.stays s.shut s.now x) x)).map (fun x => (kd, (b : Int), x.1, (0 : Int)))) (fun _ => True) (some ⟨G, 0, none⟩, n, cap) ev' pvs w1 ∧ Gb S w w1)
      w ?_ ?_ ?_ ?_ ?_ ?_ ?_ ?_ (fun args w => by kernel_rfl) hl).mono ?_
    · refine ⟨ev, ?_, .refl S w⟩
      have e0 : setP s b { s.pools[b] with waiters := s.pools[b].waiters } = s := setP_self s b hbn
      rw [e0]
      simpa using h
    · rintro k l' w1 ⟨ev', h1, _⟩ hlen
      have hbn1 : b < (setP s b { s.pools[b] with waiters := l' }).pools.length := by rw [setP_len]; exact hbn
      have q := h1.each b hbp hbn1
      rw [setP_get] at q
      have q2 := q.wown trivial
      rw [hv] at q2
      exact q2
    · rintro k l' l'' w1 w2 ⟨ev', h1, hg1⟩ hlen hlen2 hgr ho
      have hbn1 : b < (setP s b { s.pools[b] with waiters := l' }).pools.length := by rw [setP_len]; exact hbn
      have h2 := h1.inW hbp hbn1 (w1 := w2) (by rw [hob]; exact hgr) (l := l'') (by rw [hv]; exact ho)
      rw [setP_get, setP_set] at h2
      exact ⟨ev', h2, hg1.trans (.of_grown hgr (fun k hk => by injection hk with hk; subst hk; exact hSg))⟩
    · rintro k hk w1 ⟨ev', h1, hg1⟩
      have hek : es.length + ((s.pools[b].waiters.take k).filter (fun x => !(fun x => Md.stays s.shut s.now x) x)).length ≤ 900000 := by
        have := List.length_filter_le (fun x => !(fun x => Md.stays s.shut s.now x) x) (s.pools[b].waiters.take k)
        rw [List.length_take] at this
        omega
      have e0 : setP s b { s.pools[b] with waiters := s.pools[b].waiters } = s := setP_self s b hbn
      rw [e0] at h1
      refine (leave1_any S R G n cap b A1 A2 A3 kd c s _ _ ev' pvs s.pools[b].waiters[k] w1 h1 (hg1.cellOf n1 a1) (hg1.cellOf n2 a2) (hg1.cellOf n3 a3) (by simpa using hek)).mono ?_
      rintro e w' ⟨rfl, ⟨ev2, h2⟩, hg2⟩
      refine ⟨rfl, ev2, ?_, hg1.trans hg2⟩
      rw [e0, map_filter_take (fun x => Md.stays s.shut s.now x) (fun x => (kd, (b : Int), x.1, (0 : Int))) _ k hk, ← List.append_assoc]
      exact h2
    · rintro k l' w1 o ⟨ev', h1, hg1⟩
      exact ⟨hg1.size, ev', h1.begin o, hg1.alloc o⟩
    · rintro X k l' w1 w2 ⟨hX, ev', h1, hg1⟩ hgr
      exact ⟨hX, ev', h1.kept hgr (fun k hk => by injection hk with hk; subst hk; exact fun hm => (h1.sub _ hm).2 rfl), hg1.trans (.of_grown hgr (fun k hk => by injection hk with hk; subst hk; exact h.fresh _ hX))⟩
    · rintro X k hk l' w1 hXl hlen ⟨hX, ev', h1, hg1⟩
      have hek : es.length + ((s.pools[b].waiters.take k).filter (fun x => !(fun x => Md.stays s.shut s.now x) x)).length ≤ 900000 := by
        have := List.length_filter_le (fun x => !(fun x => Md.stays s.shut s.now x) x) (s.pools[b].waiters.take k)
        rw [List.length_take] at this
        omega
      have hbn1 : b < (setP s b { s.pools[b] with waiters := l' }).pools.length := by rw [setP_len]; exact hbn
      have hlv := leave1_any (fun i => S i ∧ i ≠ X) R G n cap b A1 A2 A3 kd c _ _ _ ev' pvs s.pools[b].waiters[k] w1 h1 (hg1.cellOf n1 a1) (hg1.cellOf n2 a2) (hg1.cellOf n3 a3) (by simpa using hek)
      refine hlv.mono ?_
      rintro e w' ⟨rfl, ⟨ev2, h2⟩, hg2⟩
      refine ⟨rfl, ⟨hX, ev2, ?_, hg1.trans (hg2.mono fun _ _ x => x.1)⟩, hg2.block X hXl (fun x => x.2 rfl)⟩
      rw [map_filter_take (fun x => Md.stays s.shut s.now x) (fun x => (kd, (b : Int), x.1, (0 : Int))) _ k hk, ← List.append_assoc]
      exact h2
    · rintro X k l' w1 ⟨hX, ev', h1, hg1⟩
      exact ⟨ev', h1.widen (fun _ x => x.1), hg1⟩
    · rintro e w' ⟨rfl, l', ⟨ev', h1, hg1⟩, hlen, htk⟩
      have hbn1 : b < (setP s b { s.pools[b] with waiters := l' }).pools.length := by rw [setP_len]; exact hbn
      have hpc := h1.cells hbp
      have q := h1.each b hbp hbn1
      rw [setP_get] at q
      have q2 := q.wown trivial
      rw [hv] at q2
      have hcap : OwnL 58 2 encWaiter w' 0 (.slice (some ⟨g, 0, none⟩) l'.length cp) l' := by rw [hlen]; exact q2
      have hfl : (s.pools[b].waiters.filter (fun x => Md.stays s.shut s.now x)).length ≤ l'.length := by rw [hlen]; exact List.length_filter_le _ _
      have ho := own_take encWaiter_len hcap _ hfl
      rw [htk] at ho
      have h2 := h1.setW hbp hbn1 (w1 := w') ⟨rfl, rfl, rfl, Nat.le_refl _, fun _ _ _ => rfl⟩ (u := (some ⟨g, 0, none⟩, (s.pools[b].waiters.filter (fun x => Md.stays s.shut s.now x)).length, cp)) (l := s.pools[b].waiters.filter (fun x => Md.stays s.shut s.now x)) ho (.inl hob.symm)
      simp only [setP_get] at h2
      have hset : ∀ p, { setP s b { s.pools[b] with waiters := l' } with pools := (setP s b { s.pools[b] with waiters := l' }).pools.set b p } = setP s b p := fun p => setP_set s b _ p
      rw [hset] at h2
      rw [List.take_length] at h2
      have k7 := hpc.c7
      rw [hv] at k7
      exact ⟨_, rfl, ⟨k7, hpc.fr 7⟩, fun x hx hn => hg1.block x hx hn, ⟨_, _, h2⟩, hg1.setCell hSG _⟩
  · have hz : s.pools[b].waiters = [] := by
      rcases Nat.eq_zero_or_pos s.pools[b].waiters.length with h0 | h0
      · exact List.eq_nil_of_length_eq_zero h0
      · obtain ⟨g, cp, e⟩ := own_form0 hown h0
        exact absurd ⟨g, cp, e⟩ hnil
    obtain ⟨u, e1, e2⟩ := own_slice hown
    have hv : ∃ a cp, pvs[b].vW = (a, 0, cp) := by
      obtain ⟨⟨a, m, cp⟩, hu⟩ : ∃ x, x = pvs[b].vW := ⟨_, rfl⟩
      rw [← hu] at e1 ⊢
      unfold valS at e1
      injection e1 with _ e3 _
      rw [hz] at e2
      exact ⟨a, cp, by have e4 : m = 0 := e3.trans e2; rw [e4]⟩
    obtain ⟨a, cp, hv⟩ := hv
    have hvS : valS pvs[b].vW = .slice a 0 cp := by rw [hv]; rfl
    rw [hvS]
    refine (dfWaiter_nil a _ cp _ w).mono ?_
    rintro e w' ⟨rfl, rfl⟩
    have hpc := h.cells hbp
    have k7 := hpc.c7
    rw [hvS] at k7
    refine ⟨(a, 0, cp), rfl, ⟨k7, hpc.fr 7⟩, fun _ _ _ => rfl, ?_, (Gb.refl S w').setCell hSG _⟩
    have h2 := h.setW hbp hbn (w1 := w') ⟨rfl, rfl, rfl, Nat.le_refl _, fun _ _ _ => rfl⟩ (u := pvs[b].vW) hown (.inl rfl)
    rw [hz]
    simp only [List.filter_nil, List.map_nil, List.append_nil]
    rw [hz] at h2
    rw [hvS] at h2
    exact ⟨_, _, h2⟩
set_option maxRecDepth 100000 in
theorem dfConn_nil (a : Option Addr) (f cap : Nat) (lb : Array Value) (w : World) : Calls Try.prog 97 #[.slice a 0 cap, .func (.func f) #[] lb] w fun e w' => e = .returned (.slice a 0 cap) ∧ w' = w := by
  have HIX : Hid (Calls Try.prog 93 #[.slice a 0 cap, .func (.func f) #[] lb] w fun e w' => e = .returned (I64 (-1)) ∧ w' = w) := by
    show Hid (Calls _ _ _ _ _)
    refine Lib.hid ?_
    go_enter Try.func93, Try.ntmps93
    go_wp2
    go_loopw [5, 8] (fun _ jv wr => jv = .int .i64 0 ∧ wr = w) (fun _ _ _ => 0)
    case atStart => exact ⟨rfl, rfl⟩
    case round =>
      obtain ⟨rfl, rfl⟩ := hrel
      go_wp2
      go_ret
      exact ⟨rfl, rfl⟩
  go_enter Try.func97, Try.ntmps97
  go_wp2_with fail
  refine HIX.out.mono ?_
  rintro e w1 ⟨rfl, rfl⟩
  go_wp2
  go_ret
  exact ⟨rfl, rfl⟩
theorem dfI_run (S : Nat → Prop) (R G n cap b A1 A2 A3 : Nat) (c : Md.Call) (s : Md.State) (es : List Md.Effect) (ev : SlV) (pvs : List PoolV) (w : World) (h : RunV S R c s es (fun _ => True) (some ⟨G, 0, none⟩, n, cap) ev pvs w) (hbp : b < pvs.length) (hbn : b < s.pools.length)
    (a1 : w.cell? ⟨A1, 0, none⟩ = some (.pointer (some ⟨R, 0, none⟩))) (a2 : w.cell? ⟨A2, 0, none⟩ = some (.pointer (some ⟨G, b * 11, none⟩))) (a3 : w.cell? ⟨A3, 0, none⟩ = some (I64 b)) (n1 : ¬ S A1) (n2 : ¬ S A2) (n3 : ¬ S A3) (hl : s.pools[b].idle.length ≤ 1000000) (hel : es.length + s.pools[b].idle.length ≤ 900000) (hnr : ∀ x ∈ s.pools[b].idle, Near x.2.1 ∧ Near x.2.2) (hn1 : Near s.pools[b].lim.idle) (hn2 : Near s.pools[b].lim.age) :
    Calls Try.prog 97 #[valS pvs[b].vI, .func (.func 98) #[] #[.pointer (some ⟨A1, 0, none⟩), .pointer (some ⟨A2, 0, none⟩), .pointer (some ⟨A3, 0, none⟩)]] w fun e w' => ∃ u', e = .returned (valS u') ∧ (w'.cell? ⟨G, b * 11 + 4, none⟩ = some (valS pvs[b].vI) ∧ w'.frozen? ⟨G, b * 11 + 4, none⟩ = false) ∧ (∀ x, x < w.heap.size → ¬ S x → w'.heap[x]? = w.heap[x]?) ∧
      RunE S R c (setP s b { s.pools[b] with idle := s.pools[b].idle.filter (fun x => !s.shut && Md.young s.pools[b].lim x s.now) }) (es ++ (s.pools[b].idle.filter (fun x => !(fun x => !s.shut && Md.young s.pools[b].lim x s.now) x)).map (fun x => ((11 : Int), (b : Int), (0 : Int), x.1))) (fun _ => True) G n cap (w'.setCell ⟨G, b * 11 + 4, none⟩ (valS u')) ∧ Gb S w (w'.setCell ⟨G, b * 11 + 4, none⟩ (valS u')) := by
  have hSG : S G := h.sub G (by simp [owns, obS])
  have hown := (h.each b hbp hbn).idle
  by_cases hnil : ∃ g cp, pvs[b].vI = (some ⟨g, 0, none⟩, s.pools[b].idle.length, cp)
  · obtain ⟨g, cp, hv⟩ := hnil
    have hob : obS pvs[b].vI = some g := by rw [hv]; rfl
    have hmem : some g ∈ ob4 pvs[b] := by rw [← hob]; simp [ob4]
    have hSg : S g := h.subP hbp hmem
    rw [hv] at hown
    rw [hv]
    show Calls _ _ #[.slice (some ⟨g, 0, none⟩) s.pools[b].idle.length cp, _] _ _
    refine (dfConn g cp s.pools[b].idle (fun x => !(fun x => !s.shut && Md.young s.pools[b].lim x s.now) x) (fun x => !s.shut && Md.young s.pools[b].lim x s.now) (fun x => rfl) _ _
      (fun k l' w1 => ∃ ev', RunV S R c (setP s b { s.pools[b] with idle := l' }) (es ++ ((s.pools[b].idle.take k).filter (fun x => !(fun x => !s.shut && Md.young s.pools[b].lim x s.now) x)).map (fun x => ((11 : Int), (b : Int), (0 : Int), x.1))) (fun _ => True) (some ⟨G, 0, none⟩, n, cap) ev' pvs w1 ∧ Gb S w w1)
      (fun X k l' w1 => w.heap.size ≤ X ∧ ∃ ev', RunV (fun i => S i ∧ i ≠ X) R c (setP s b { s.pools[b] with idle := l' }) (es ++ ((s.pools[b].idle.take k).filter (fun x => !(fun x => !s.shut && Md.young s.pools[b].lim x s.now) x)).map (fun x => ((11 : Int), (b : Int), (0 : Int), x.1))) (fun _ => True) (some ⟨G, 0, none⟩, n, cap) ev' pvs w1 ∧ Gb S w w1)
      w ?_ ?_ ?_ ?_ ?_ ?_ ?_ ?_ (fun args w => by kernel_rfl) hl).mono ?_
    · refine ⟨ev, ?_, .refl S w⟩
      have e0 : setP s b { s.pools[b] with idle := s.pools[b].idle } = s := setP_self s b hbn
      rw [e0]
      simpa using h
    · rintro k l' w1 ⟨ev', h1, _⟩ hlen
      have hbn1 : b < (setP s b { s.pools[b] with idle := l' }).pools.length := by rw [setP_len]; exact hbn
      have q := h1.each b hbp hbn1
      rw [setP_get] at q
      have q2 := q.idle
      rw [hv] at q2
      exact q2
    · rintro k l' l'' w1 w2 ⟨ev', h1, hg1⟩ hlen hlen2 hgr ho
      have hbn1 : b < (setP s b { s.pools[b] with idle := l' }).pools.length := by rw [setP_len]; exact hbn
      have h2 := h1.inI hbp hbn1 (w1 := w2) (by rw [hob]; exact hgr) (l := l'') (by rw [hv]; exact ho)
      rw [setP_get, setP_set] at h2
      exact ⟨ev', h2, hg1.trans (.of_grown hgr (fun k hk => by injection hk with hk; subst hk; exact hSg))⟩
    · rintro k hk w1 ⟨ev', h1, hg1⟩
      have hek : es.length + ((s.pools[b].idle.take k).filter (fun x => !(fun x => !s.shut && Md.young s.pools[b].lim x s.now) x)).length ≤ 900000 := by
        have := List.length_filter_le (fun x => !(fun x => !s.shut && Md.young s.pools[b].lim x s.now) x) (s.pools[b].idle.take k)
        rw [List.length_take] at this
        omega
      have e0 : setP s b { s.pools[b] with idle := s.pools[b].idle } = s := setP_self s b hbn
      rw [e0] at h1
      refine (leave2_any S R G n cap b A1 A2 A3 c s _ _ ev' pvs s.pools[b].idle[k] w1 h1 (hg1.cellOf n1 a1) (hg1.cellOf n2 a2) (hg1.cellOf n3 a3) (by simpa using hek) hbn (hnr _ (List.getElem_mem hk)).2 (hnr _ (List.getElem_mem hk)).1 hn1 hn2).mono ?_
      rintro e w' ⟨rfl, ⟨ev2, h2⟩, hg2⟩
      refine ⟨rfl, ev2, ?_, hg1.trans hg2⟩
      rw [e0, map_filter_take (fun x => !s.shut && Md.young s.pools[b].lim x s.now) (fun x => ((11 : Int), (b : Int), (0 : Int), x.1)) _ k hk, ← List.append_assoc]
      exact h2
    · rintro k l' w1 o ⟨ev', h1, hg1⟩
      exact ⟨hg1.size, ev', h1.begin o, hg1.alloc o⟩
    · rintro X k l' w1 w2 ⟨hX, ev', h1, hg1⟩ hgr
      exact ⟨hX, ev', h1.kept hgr (fun k hk => by injection hk with hk; subst hk; exact fun hm => (h1.sub _ hm).2 rfl), hg1.trans (.of_grown hgr (fun k hk => by injection hk with hk; subst hk; exact h.fresh _ hX))⟩
    · rintro X k hk l' w1 hXl hlen ⟨hX, ev', h1, hg1⟩
      have hek : es.length + ((s.pools[b].idle.take k).filter (fun x => !(fun x => !s.shut && Md.young s.pools[b].lim x s.now) x)).length ≤ 900000 := by
        have := List.length_filter_le (fun x => !(fun x => !s.shut && Md.young s.pools[b].lim x s.now) x) (s.pools[b].idle.take k)
        rw [List.length_take] at this
        omega
      have hbn1 : b < (setP s b { s.pools[b] with idle := l' }).pools.length := by rw [setP_len]; exact hbn
      have hlv := leave2_any (fun i => S i ∧ i ≠ X) R G n cap b A1 A2 A3 c _ _ _ ev' pvs s.pools[b].idle[k] w1 h1 (hg1.cellOf n1 a1) (hg1.cellOf n2 a2) (hg1.cellOf n3 a3) (by simpa using hek) hbn1 (hnr _ (List.getElem_mem hk)).2 (hnr _ (List.getElem_mem hk)).1 (by rw [setP_get]; exact hn1) (by rw [setP_get]; exact hn2)
      simp only [setP_get] at hlv
      refine hlv.mono ?_
      rintro e w' ⟨rfl, ⟨ev2, h2⟩, hg2⟩
      refine ⟨rfl, ⟨hX, ev2, ?_, hg1.trans (hg2.mono fun _ _ x => x.1)⟩, hg2.block X hXl (fun x => x.2 rfl)⟩
      rw [map_filter_take (fun x => !s.shut && Md.young s.pools[b].lim x s.now) (fun x => ((11 : Int), (b : Int), (0 : Int), x.1)) _ k hk, ← List.append_assoc]
      exact h2
    · rintro X k l' w1 ⟨hX, ev', h1, hg1⟩
      exact ⟨ev', h1.widen (fun _ x => x.1), hg1⟩
    · rintro e w' ⟨rfl, l', ⟨ev', h1, hg1⟩, hlen, htk⟩
      have hbn1 : b < (setP s b { s.pools[b] with idle := l' }).pools.length := by rw [setP_len]; exact hbn
      have hpc := h1.cells hbp
      have q := h1.each b hbp hbn1
      rw [setP_get] at q
      have q2 := q.idle
      rw [hv] at q2
      have hcap : OwnL 100 3 encConn w' 0 (.slice (some ⟨g, 0, none⟩) l'.length cp) l' := by rw [hlen]; exact q2
      have hfl : (s.pools[b].idle.filter (fun x => !s.shut && Md.young s.pools[b].lim x s.now)).length ≤ l'.length := by rw [hlen]; exact List.length_filter_le _ _
      have ho := own_take encConn_len hcap _ hfl
      rw [htk] at ho
      have h2 := h1.setI hbp hbn1 (w1 := w') ⟨rfl, rfl, rfl, Nat.le_refl _, fun _ _ _ => rfl⟩ (u := (some ⟨g, 0, none⟩, (s.pools[b].idle.filter (fun x => !s.shut && Md.young s.pools[b].lim x s.now)).length, cp)) (l := s.pools[b].idle.filter (fun x => !s.shut && Md.young s.pools[b].lim x s.now)) ho (.inl hob.symm)
      simp only [setP_get] at h2
      have hset : ∀ p, { setP s b { s.pools[b] with idle := l' } with pools := (setP s b { s.pools[b] with idle := l' }).pools.set b p } = setP s b p := fun p => setP_set s b _ p
      rw [hset] at h2
      rw [List.take_length] at h2
      have k4 := hpc.c4
      rw [hv] at k4
      exact ⟨_, rfl, ⟨k4, hpc.fr 4⟩, fun x hx hn => hg1.block x hx hn, ⟨_, _, h2⟩, hg1.setCell hSG _⟩
  · have hz : s.pools[b].idle = [] := by
      rcases Nat.eq_zero_or_pos s.pools[b].idle.length with h0 | h0
      · exact List.eq_nil_of_length_eq_zero h0
      · obtain ⟨g, cp, e⟩ := own_form0 hown h0
        exact absurd ⟨g, cp, e⟩ hnil
    obtain ⟨u, e1, e2⟩ := own_slice hown
    have hv : ∃ a cp, pvs[b].vI = (a, 0, cp) := by
      obtain ⟨⟨a, m, cp⟩, hu⟩ : ∃ x, x = pvs[b].vI := ⟨_, rfl⟩
      rw [← hu] at e1 ⊢
      unfold valS at e1
      injection e1 with _ e3 _
      rw [hz] at e2
      exact ⟨a, cp, by have e4 : m = 0 := e3.trans e2; rw [e4]⟩
    obtain ⟨a, cp, hv⟩ := hv
    have hvS : valS pvs[b].vI = .slice a 0 cp := by rw [hv]; rfl
    rw [hvS]
    refine (dfConn_nil a _ cp _ w).mono ?_
    rintro e w' ⟨rfl, rfl⟩
    have hpc := h.cells hbp
    have k4 := hpc.c4
    rw [hvS] at k4
    refine ⟨(a, 0, cp), rfl, ⟨k4, hpc.fr 4⟩, fun _ _ _ => rfl, ?_, (Gb.refl S w').setCell hSG _⟩
    have h2 := h.setI hbp hbn (w1 := w') ⟨rfl, rfl, rfl, Nat.le_refl _, fun _ _ _ => rfl⟩ (u := pvs[b].vI) hown (.inl rfl)
    rw [hz]
    simp only [List.filter_nil, List.map_nil, List.append_nil]
    rw [hz] at h2
    rw [hvS] at h2
    exact ⟨_, _, h2⟩
end Go.Proofs.Ytaicmiadgnpimaa
