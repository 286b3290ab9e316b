/- LightOnce: each worker's step is a step of the two mutexes' balance. -/
import Derived.Test.YtnlopklbbajlbaaSwA
namespace Go.Proofs.Ytnlopklbbajlbaa.Sw
open Go.ConcN (sumTo upd sumTo_upd upd_same upd_ne sumTo_congr le_sumTo)

theorem mx_put_same (s : Sh) (b : Bool) (x : Mx) : (s.put b x).mx b = x := by cases b <;> rfl
theorem mx_put_ne {s : Sh} {b b' : Bool} (x : Mx) (h : b ≠ b') : (s.put b x).mx b' = s.mx b' := by cases b <;> cases b' <;> first | rfl | exact absurd rfl h
theorem head_b (T : Wk) : (head T).b = T.b := by unfold head; split <;> rfl
theorem head_aw (T : Wk) : (head T).aw = T.aw := by unfold head; split <;> rfl
theorem head_pc (T : Wk) : (head T).pc = .msq ∨ (head T).pc = .mc2 := by unfold head; split <;> simp
theorem role_head (T : Wk) : role (head T) = if T.aw then 2 else 0 := by
  unfold head; split <;> simp [role]
/-- The role on mutex b. -/
def rb (T : Wk) (b : Bool) : Nat := if T.b = b then role T else 0

/-- What a goroutine in lockSlow or unlockSlow holds of its own locals. -/
def LocM (W : Nat) (T : Wk) (x : Mx) : Prop :=
  match T.pc with
  | .msq => (T.aw = true → T.old.k = true) ∧ T.old.l = true ∧ T.old.s = false ∧ (T.sv = true → T.aw = true) ∧ T.it ≤ 4 ∧ T.old.n ≤ W
  | .mc1 => T.aw = false ∧ T.old.k = false ∧ T.old.l = true ∧ T.old.s = false ∧ (T.sv = true → T.aw = true) ∧ T.it < 4 ∧ T.old.n ≤ W
  | .mr1 => (T.sv = true → T.aw = true) ∧ T.it < 4 ∧ T.old.n ≤ W
  | .mc2 => (T.aw = true → T.old.k = true) ∧ (T.sv = true → T.aw = true) ∧ T.it ≤ 4 ∧ T.old.n ≤ W
  | .mr3 => (T.sv = true → T.aw = true) ∧ T.it ≤ 4 ∧ T.old.n ≤ W
  | .ma1 => 1 ≤ T.old.n ∧ T.old.n ≤ x.w.n ∧ T.old.n ≤ W
  | .uc => T.old.l = false ∧ T.old.k = false ∧ T.old.s = false ∧ 0 < T.old.n ∧ T.old.n ≤ W
  | _ => True

section
variable {W n B : Nat} {nm : Nat → ByteArray} {T X : Wk} {s s' : Sh} {c : Nat → Nat}

theorem ms_same (b : Bool) (h1 : s'.mx b = s.mx b) (h2 : rb X b = rb T b) : MS (s.mx b) (rb T b) (s'.mx b) (rb X b) := by
  rw [h1, h2]; exact .same _ _
theorem ms_put (x : Mx) (hx : X.b = T.b) (h : MS (s.mx T.b) (role T) x (role X)) : ∀ b, MS (s.mx b) (rb T b) ((s.put T.b x).mx b) (rb X b) := by
  intro b
  by_cases e : T.b = b
  · subst e; rw [mx_put_same]; simpa [rb, hx] using h
  · rw [mx_put_ne x e]; simp only [rb, hx, if_neg e]; exact .same _ _
theorem ms_keep (hx : X.b = T.b) (h : MS (s.mx T.b) (role T) (s.mx T.b) (role X)) : ∀ b, MS (s.mx b) (rb T b) (s.mx b) (rb X b) := by
  intro b
  by_cases e : T.b = b
  · subst e; simpa [rb, hx] using h
  · simp only [rb, hx, if_neg e]; exact .same _ _

theorem step_ms (h : Step W n nm T s X s') (hl : LocM B T (s.mx T.b)) (hm : MxOK (s.mx T.b) c) (hc : 1 ≤ c (role T)) : ∀ b, MS (s.mx b) (rb T b) (s'.mx b) (rb X b) := by
  cases hp : T.pc <;> simp only [Step, LocM, hp] at h hl
  case bx => obtain ⟨⟨z, rfl⟩, rfl⟩ := h; exact ms_keep rfl (by simp only [role, hp]; exact .same _ _)
  case dn0 => obtain ⟨rfl, rfl⟩ := h; intro b; exact ms_same b rfl (by simp [rb, role, hp])
  case md => obtain ⟨rfl, rfl⟩ := h; exact ms_keep rfl (by simp only [role, hp]; exact .same _ _)
  case m0 =>
    rcases h with ⟨h0, rfl, rfl⟩ | ⟨h0, rfl, rfl⟩
    · refine ms_put _ rfl ?_
      have h1 : (s.mx T.b).w.l = false := by rw [h0]; rfl
      have h2 : (s.mx T.b).w.s = false := by rw [h0]; rfl
      have := MS.take (x := s.mx T.b) h1 h2
      simpa [role, hp, h0, MuW.nil] using this
    · exact ms_keep rfl (by simp only [role, hp]; exact .same _ _)
  case mr0 => obtain ⟨rfl, rfl⟩ := h; exact ms_keep (head_b _) (by rw [role_head]; simp only [role, hp]; exact .same _ _)
  case msq =>
    obtain ⟨rfl, h | ⟨_, _, _, h⟩ | ⟨_, h⟩⟩ := h
    all_goals subst h; exact ms_keep rfl (by simp only [role, hp]; exact .same _ _)
  case mc1 =>
    obtain ⟨ha, hk, hol, hos, _⟩ := hl
    rcases h with ⟨h0, rfl, rfl⟩ | ⟨h0, rfl, rfl⟩
    · refine ms_put _ rfl ?_
      have := MS.wake (x := s.mx T.b) (by rw [h0]; exact hol) (by rw [h0]; exact hk) (by rw [h0]; exact hos)
      simpa [role, hp, ha] using this
    · exact ms_keep rfl (by simp only [role, hp]; exact .same _ _)
  case mr1 => obtain ⟨rfl, rfl⟩ := h; exact ms_keep (head_b _) (by rw [role_head]; simp only [role, hp]; exact .same _ _)
  case mc2 =>
    obtain ⟨hk, hv, _⟩ := hl
    rcases h with ⟨h0, rfl, h⟩ | ⟨h0, rfl, rfl⟩
    · cases ha : T.aw with
      | false =>
        have hv' : T.sv = false := by cases hs : T.sv; rfl; exact absurd (hv hs) (by simp [ha])
        rcases h with ⟨hl1, hs1, rfl⟩ | ⟨hq, h⟩
        · refine ms_put _ rfl ?_
          have := MS.take (x := s.mx T.b) (by rw [h0]; exact hl1) (by rw [h0]; exact hs1)
          have e : nw T = { (s.mx T.b).w with l := true } := by rw [h0]; unfold nw; simp [hl1, hs1, ha]
          simpa [role, hp, ha, e] using this
        · have := MS.queue (x := s.mx T.b) (by rw [h0]; exact hq)
          have e : nw T = { (s.mx T.b).w with n := (s.mx T.b).w.n + 1 } := by rw [h0]; unfold nw; rcases hq with hq | hq <;> cases hs : T.old.s <;> simp_all
          rcases h with rfl | rfl <;> exact ms_put _ rfl (by simpa [role, hp, ha, e] using this)
      | true =>
        have hk' : (s.mx T.b).w.k = true := by rw [h0]; exact hk ha
        have hs' : T.old.s = false := by
          cases hs : T.old.s
          · rfl
          · have := (hm.s1 (by rw [h0]; exact hs)).1; rw [hk'] at this; cases this
        rcases h with ⟨hl1, hs1, rfl⟩ | ⟨hq, h⟩
        · refine ms_put _ rfl ?_
          have := MS.takeAw (x := s.mx T.b) (by rw [h0]; exact hl1) (by rw [h0]; exact hs1)
          have e : nw T = { (s.mx T.b).w with l := true, k := false } := by rw [h0]; unfold nw; simp [hl1, hs1, ha]
          simpa [role, hp, ha, e] using this
        · have hl1 : T.old.l = true := by rcases hq with hq | hq; exact hq; rw [hs'] at hq; cases hq
          have := MS.queueAw (x := s.mx T.b) (sv := T.sv) (by rw [h0]; exact hl1) (by rw [h0]; exact hs')
          have e : nw T = { (s.mx T.b).w with n := (s.mx T.b).w.n + 1, k := false, s := T.sv } := by rw [h0]; unfold nw; simp [hl1, hs', ha]
          rcases h with rfl | rfl <;> exact ms_put _ rfl (by simpa [role, hp, ha, e] using this)
    · exact ms_keep rfl (by simp only [role, hp]; exact .same _ _)
  case mt1 => obtain ⟨rfl, rfl⟩ := h; exact ms_keep rfl (by simp only [role, hp]; exact .same _ _)
  case ms1 =>
    obtain ⟨h0, rfl, h⟩ := h
    have := MS.token (x := s.mx T.b) h0
    rcases h with rfl | rfl <;> exact ms_put _ rfl (by simpa [role, hp] using this)
  case mt2 =>
    obtain ⟨h, rfl⟩ := h
    rcases h with rfl | rfl <;> exact ms_keep rfl (by simp only [role, hp]; exact .same _ _)
  case mr2 =>
    obtain ⟨⟨h0, rfl⟩ | ⟨h0, rfl⟩, rfl⟩ := h
    · exact ms_keep rfl (by simp only [role, hp]; exact .tkH h0)
    · exact ms_keep (head_b _) (by rw [role_head]; simp only [role, hp, if_true]; exact .tkN h0)
  case ma1 =>
    obtain ⟨rfl, rfl⟩ := h
    obtain ⟨o1, o2, _⟩ := hl
    have h4 : 1 ≤ c 4 := by simpa [role, hp] using hc
    have hs : (s.mx T.b).w.s = true := by
      cases hs : (s.mx T.b).w.s
      · have := (hm.n0 hs).2.1; omega
      · rfl
    refine ms_put _ rfl ?_
    have := MS.add (x := s.mx T.b) (s' := T.sv && !(T.old.n == 1)) hs (fun h => by
      simp only [Bool.and_eq_true, Bool.not_eq_true', beq_eq_false_iff_ne, ne_eq] at h
      omega)
    simpa [role, hp] using this
  case mr3 => obtain ⟨rfl, rfl⟩ := h; exact ms_keep (head_b _) (by rw [role_head]; simp only [role, hp]; exact .same _ _)
  case ma => obtain ⟨rfl, rfl⟩ := h; exact ms_keep rfl (by cases T.b <;> simp only [role, hp] <;> exact .same _ _)
  case dn1 =>
    obtain ⟨rfl, rfl⟩ := h
    exact ms_keep rfl (by cases s'.done <;> simp only [role, hp] <;> exact .same _ _)
  case al => obtain ⟨z, rfl, rfl⟩ := h; intro b; exact ms_same b (by cases b <;> rfl) (by simp [rb, role, hp])
  case sl => obtain ⟨rfl, rfl⟩ := h; intro b; exact ms_same b (by cases b <;> rfl) (by simp [rb, role, hp])
  case dst => obtain ⟨rfl, rfl⟩ := h; intro b; exact ms_same b (by cases b <;> rfl) (by simp [rb, role, hp])
  case lk2 =>
    obtain ⟨⟨_, rfl⟩ | ⟨_, rfl⟩, rfl⟩ := h
    all_goals exact ms_keep rfl (by simp only [role, hp]; exact .same _ _)
  case dr =>
    obtain ⟨rfl | rfl, rfl⟩ := h
    all_goals exact ms_keep rfl (by simp only [role, hp]; exact .same _ _)
  case ian => obtain ⟨rfl, rfl⟩ := h; intro b; exact ms_same b (by cases b <;> rfl) (by simp [rb, role, hp])
  case iba => obtain ⟨rfl, rfl⟩ := h; intro b; exact ms_same b (by cases b <;> rfl) (by simp [rb, role, hp])
  case in2 => obtain ⟨rfl, rfl⟩ := h; intro b; exact ms_same b (by cases b <;> rfl) (by simp [rb, role, hp])
  case u0 =>
    obtain ⟨rfl, ⟨h0, rfl⟩ | ⟨h0, h1, rfl⟩ | ⟨h0, h1, h2, rfl⟩⟩ := h
    · exact ms_put _ rfl (by simpa [role, hp] using MS.unlS (x := s.mx T.b) h0)
    · exact ms_put _ rfl (by simpa [role, hp] using MS.unlN (x := s.mx T.b) h0 h1)
    · exact ms_put _ rfl (by simpa [role, hp] using MS.unlW (x := s.mx T.b) h0)
  case uc =>
    obtain ⟨o1, o2, o3, o4, _⟩ := hl
    rcases h with ⟨h0, rfl, rfl⟩ | ⟨h0, rfl, rfl⟩
    · refine ms_put _ rfl ?_
      have := MS.unc (x := s.mx T.b) (by rw [h0]; exact o1) (by rw [h0]; exact o2) (by rw [h0]; exact o3) (by rw [h0]; exact o4)
      simpa [role, hp] using this
    · exact ms_keep rfl (by simp only [role, hp]; exact .same _ _)
  case ux =>
    obtain ⟨⟨h0, rfl⟩ | ⟨_, _, _, _, rfl⟩, rfl⟩ := h
    · exact ms_keep rfl (by simp only [role, hp]; exact .unr h0)
    · exact ms_keep rfl (by simp only [role, hp]; exact .same _ _)
  case us => obtain ⟨rfl, rfl⟩ := h; exact ms_put _ rfl (by simpa [role, hp] using MS.rel (x := s.mx T.b))
  case ue =>
    obtain ⟨h, rfl⟩ := h
    intro b
    refine ms_same b rfl ?_
    cases hb : T.b <;> simp only [hb, if_true, if_false, Bool.false_eq_true] at h <;> subst h <;> simp [rb, role, hp]
  case wf => obtain ⟨rfl, rfl⟩ := h; intro b; exact ms_same b (by cases b <;> rfl) (by by_cases e : T.i + W < n <;> simp [rb, role, hp, e])
  case d1 => obtain ⟨rfl, rfl⟩ := h; intro b; exact ms_same b (by cases b <;> rfl) (by by_cases e : s.wv = 1 ∧ s.ww = 1 <;> simp [rb, role, hp, e])
  case d3 => obtain ⟨rfl, rfl⟩ := h; intro b; exact ms_same b (by cases b <;> rfl) (by simp [rb, role, hp])
  case d4 => obtain ⟨rfl, rfl⟩ := h; intro b; exact ms_same b (by cases b <;> rfl) (by simp [rb, role, hp])
  all_goals (obtain ⟨rfl, rfl⟩ := h; exact ms_keep rfl (by simp only [role, hp]; exact .same _ _))
end
end Go.Proofs.Ytnlopklbbajlbaa.Sw

namespace Go.Proofs.Ytnlopklbbajlbaa.Sw
open Go.ConcN (sumTo upd sumTo_upd upd_same upd_ne sumTo_congr le_sumTo sumTo_le)

structure GS where
  t0 : St
  th : Nat → Wk
  s : Sh
/-- How many of the first j stand in role q on mutex b. -/
def cnt (th : Nat → Wk) (j : Nat) (b : Bool) (q : Nat) : Nat := sumTo j fun k => ind (rb (th k) b = q)

section
variable {th : Nat → Wk} {j k : Nat} {T X : Wk} {W n : Nat} {nm : Nat → ByteArray} {s s' : Sh} {B : Nat}

theorem ind_true {p : Prop} [Decidable p] (h : p) : ind p = 1 := if_pos h
theorem ind_false {p : Prop} [Decidable p] (h : ¬ p) : ind p = 0 := if_neg h
theorem ind_le (p : Prop) [Decidable p] : ind p ≤ 1 := by unfold ind; split <;> omega
theorem cnt_upd (hk : k < j) (T' : Wk) (b : Bool) (q : Nat) : cnt (upd th k T') j b q + ind (rb (th k) b = q) = cnt th j b q + ind (rb T' b = q) :=
  sumTo_upd th T' (fun T => ind (rb T b = q)) hk
theorem cnt_pos (hk : k < j) (b : Bool) : 1 ≤ cnt th j b (rb (th k) b) := by
  have := le_sumTo (f := fun a => ind (rb (th a) b = rb (th k) b)) hk
  simpa [cnt, ind] using this
theorem cnt_pos' (hk : k < j) {b : Bool} {q : Nat} (h : rb (th k) b = q) : 1 ≤ cnt th j b q := by rw [← h]; exact cnt_pos hk b
theorem rb_self (T : Wk) : rb T T.b = role T := if_pos rfl
theorem cnt_le (b : Bool) (q : Nat) : cnt th j b q ≤ j := by
  have := sumTo_le (f := fun a => ind (rb (th a) b = q)) (c := 1) (j := j) fun i _ => ind_le _
  simpa [cnt] using this
/-- Two that stand in role q: the count is two at least. -/
theorem sumTo_two {f : Nat → Nat} {a b : Nat} : ∀ {j : Nat}, a < j → b < j → a ≠ b → f a + f b ≤ sumTo j f
  | j + 1, ha, hb, hne => by
    simp only [sumTo]
    rcases Nat.lt_or_ge a j with h1 | h1
    · rcases Nat.lt_or_ge b j with h2 | h2
      · have := sumTo_two (f := f) h1 h2 hne; omega
      · obtain rfl : b = j := by omega
        have := le_sumTo (f := f) h1; omega
    · obtain rfl : a = j := by omega
      have := le_sumTo (f := f) (show b < a by omega); omega
theorem cnt_two {k' : Nat} (hk : k < j) (hk' : k' < j) (hne : k ≠ k') {b : Bool} {q : Nat} (h : rb (th k) b = q) (h' : rb (th k') b = q) : 2 ≤ cnt th j b q := by
  have := sumTo_two (f := fun a => ind (rb (th a) b = q)) hk hk' hne
  simp only [ind_true h, ind_true h'] at this
  exact this

/-- Both mutexes are in balance. -/
def MB (th : Nat → Wk) (j : Nat) (s : Sh) : Prop := ∀ b, MxOK (s.mx b) (cnt th j b)

theorem MB.bound (h : MB th j s) (b : Bool) (hj : 3 * j ≤ B) : (s.mx b).w.n ≤ B := by
  have a3 := cnt_le (th := th) (j := j) b 3
  have a4 := cnt_le (th := th) (j := j) b 4
  have a5 := cnt_le (th := th) (j := j) b 5
  cases hs : (s.mx b).w.s
  · have := ((h b).n0 hs).2.2.1; omega
  · have := ((h b).s1 hs).2.2.2.1; omega
theorem MB.semBound (h : MB th j s) (b : Bool) : (s.mx b).sem ≤ j + 1 := by
  have a5 := cnt_le (th := th) (j := j) b 5
  cases hs : (s.mx b).w.s
  · have := ((h b).n0 hs).2.2.1; omega
  · have := ((h b).s1 hs).2.2.1; omega

theorem MB.stepS (h : MB th j s) (hk : k < j) (hT : th k = T) (hst : Step W n nm T s X s') (hl : LocM B T (s.mx T.b)) (c' : Nat) : MB (upd th k { X with c := c' }) j s' := by
  have hms := step_ms hst hl (h T.b) (by have := cnt_pos (th := th) hk T.b; rw [hT, rb_self] at this; exact this)
  intro b
  refine (h b).step (hms b) fun q _ => ?_
  have := cnt_upd (th := th) hk { X with c := c' } b q
  rw [hT] at this
  exact this
theorem MB.quiet (h : MB th j s) (hk : k < j) (c' : Nat) : MB (upd th k { th k with c := c' }) j s := by
  intro b
  refine (h b).step (.same _ (rb (th k) b)) fun q _ => ?_
  exact cnt_upd (th := th) hk { th k with c := c' } b q

/-- An awake one has the flag. -/
theorem MB.aw (h : MB th j s) (hk : k < j) {b : Bool} (hr : rb (th k) b = 2) : (s.mx b).w.k = true ∧ (s.mx b).w.s = false := by
  have h2 := cnt_pos' (th := th) hk hr
  cases hs : (s.mx b).w.s
  · have := ((h b).n0 hs).1
    cases hk' : (s.mx b).w.k
    · rw [hk'] at this; simp at this; omega
    · exact ⟨rfl, rfl⟩
  · have := ((h b).s1 hs).2.1; omega
theorem MB.tk (h : MB th j s) (hk : k < j) {b : Bool} (hr : rb (th k) b = 3) : ((s.mx b).w.s = false → (s.mx b).w.k = true) ∧ ((s.mx b).w.s = true → (s.mx b).w.k = false ∧ (s.mx b).w.l = false ∧ 0 < (s.mx b).w.n) := by
  have h2 := cnt_pos' (th := th) hk hr
  refine ⟨fun hs => ?_, fun hs => ?_⟩
  · have := ((h b).n0 hs).1
    cases hk' : (s.mx b).w.k
    · rw [hk'] at this; simp at this; omega
    · rfl
  · obtain ⟨a1, a2, a3, a4, a5⟩ := (h b).s1 hs
    refine ⟨a1, ?_, a5⟩
    have := (h b).l
    cases hl : (s.mx b).w.l
    · rfl
    · rw [hl] at this; simp at this; omega
theorem MB.awk (h : MB th j s) (hk : k < j) {b : Bool} (hr : rb (th k) b = 2) : (s.mx b).w.s = false ∧ (s.mx b).w.k = true := by
  have h2 := cnt_pos' (th := th) hk hr
  cases hs : (s.mx b).w.s
  · have := ((h b).n0 hs).1
    refine ⟨rfl, ?_⟩
    cases hk' : (s.mx b).w.k
    · rw [hk'] at this; simp at this; omega
    · rfl
  · have := ((h b).s1 hs).2.1; omega
theorem MB.ad (h : MB th j s) (hk : k < j) {b : Bool} (hr : rb (th k) b = 4) : (s.mx b).w.s = true ∧ (s.mx b).w.k = false ∧ (s.mx b).w.l = false ∧ 0 < (s.mx b).w.n := by
  have h2 := cnt_pos' (th := th) hk hr
  cases hs : (s.mx b).w.s
  · have := ((h b).n0 hs).2.1; omega
  · obtain ⟨a1, a2, a3, a4, a5⟩ := (h b).s1 hs
    refine ⟨rfl, a1, ?_, a5⟩
    have := (h b).l
    cases hl : (s.mx b).w.l
    · rfl
    · rw [hl] at this; simp at this; omega
theorem MB.hold (h : MB th j s) (hk : k < j) {b : Bool} (hr : rb (th k) b = 1) : (s.mx b).w.l = true := by
  have h2 := cnt_pos' (th := th) hk hr
  have := (h b).l
  cases hl : (s.mx b).w.l
  · rw [hl] at this; simp at this; omega
  · rfl
/-- Only one holds. -/
theorem MB.one (h : MB th j s) {k' : Nat} (hk : k < j) (hk' : k' < j) {b : Bool} (hr : rb (th k) b = 1) (hr' : rb (th k') b = 1) : k = k' := by
  refine Classical.byContradiction fun hne => ?_
  have h2 := cnt_two hk hk' hne hr hr'
  have := (h b).l
  cases hl : (s.mx b).w.l <;> rw [hl] at this <;> simp at this <;> omega

/-- While one is about to take the lock by hand-off nobody else lowers the number of those who wait. -/
theorem ms_n {x x' : Mx} {r r' : Nat} {c : Nat → Nat} (hm : MxOK x c) (h : MS x r x' r') (hs : x.w.s = true) (hr : r = 4 → 2 ≤ c 4) (h1 : r = 1 → 1 ≤ c 1) : x.w.n ≤ x'.w.n := by
  obtain ⟨_, _, a3, _, _⟩ := hm.s1 hs
  cases h <;> first | exact Nat.le_refl _ | (simp_all; done) | skip
  case add => have := hr rfl; omega
theorem LocM.other (h : MB th j s) {k' : Nat} (hk : k < j) (hk' : k' < j) (hne : k' ≠ k) (hT : th k = T) (hst : Step W n nm T s X s') (hl : LocM B T (s.mx T.b)) (ho : LocM B (th k') (s.mx (th k').b)) : LocM B (th k') (s'.mx (th k').b) := by
  by_cases hp : (th k').pc = .ma1
  · have hr : rb (th k') (th k').b = 4 := by rw [rb_self]; simp [role, hp]
    have hms := step_ms hst hl (h T.b) (by have := cnt_pos (th := th) hk T.b; rw [hT, rb_self] at this; exact this) (th k').b
    have hn := ms_n (h (th k').b) hms (h.ad hk' hr).1 (fun e => cnt_two hk' hk hne.symm.symm hr (by rw [hT]; exact e)) (fun e => cnt_pos' hk (by rw [hT]; exact e))
    unfold LocM at ho ⊢
    simp only [hp] at ho ⊢
    exact ⟨ho.1, Nat.le_trans ho.2.1 hn, ho.2.2⟩
  · unfold LocM at ho ⊢
    cases hq : (th k').pc <;> simp only [hq] at ho ⊢ <;> first | exact ho | exact absurd hq hp

/-- Its own locals, behind its own step. -/
theorem LocM.own (h : MB th j s) (hj : 3 * j ≤ B) (hk : k < j) (hT : th k = T) (hst : Step W n nm T s X s') (hl : LocM B T (s.mx T.b)) : LocM B X (s'.mx X.b) := by
  have hbd := h.bound (B := B) T.b hj
  have hrb : rb (th k) T.b = role T := by rw [hT, rb_self]
  have hh : ∀ (T : Wk) (x : Mx), (T.aw = true → T.old.k = true) → (T.sv = true → T.aw = true) → T.it ≤ 4 → T.old.n ≤ B → LocM B (head T) x := by
    intro T x h1 h2 h3 h4
    unfold head
    split
    · rename_i e
      simp only [Bool.and_eq_true, Bool.not_eq_true'] at e
      exact ⟨h1, e.1, e.2, h2, h3, h4⟩
    · exact ⟨h1, h2, h3, h4⟩
  cases hp : T.pc <;> simp only [Step, LocM, hp] at hst hl
  case mr0 =>
    obtain ⟨rfl, rfl⟩ := hst
    exact hh _ _ (fun e => by cases e) (fun e => by cases e) (Nat.zero_le _) hbd
  case msq =>
    obtain ⟨l1, l2, l3, l4, l5, l6⟩ := hl
    obtain ⟨rfl, rfl | ⟨h1, h2, h3, rfl⟩ | ⟨h1, rfl⟩⟩ := hst
    · exact ⟨l1, l4, l5, l6⟩
    · exact ⟨h2, h3, l2, l3, l4, h1, l6⟩
    · exact ⟨l4, h1, l6⟩
  case mc1 =>
    obtain ⟨l1, l2, l3, l4, l5, l6, l7⟩ := hl
    rcases hst with ⟨_, rfl, rfl⟩ | ⟨_, rfl, rfl⟩
    · exact ⟨fun _ => rfl, l6, l7⟩
    · exact ⟨l5, l6, l7⟩
  case mr1 =>
    obtain ⟨l1, l2, l3⟩ := hl
    obtain ⟨rfl, rfl⟩ := hst
    exact hh _ _ (fun e => (h.aw hk (by rw [hrb]; simp only [role, hp]; exact if_pos e)).1) l1 l2 hbd
  case mc2 =>
    obtain ⟨l1, l2, l3, l4⟩ := hl
    rcases hst with ⟨_, rfl, ⟨_, _, rfl⟩ | ⟨_, rfl | rfl⟩⟩ | ⟨_, rfl, rfl⟩
    · trivial
    · trivial
    · trivial
    · exact ⟨l2, l3, l4⟩
  case mr2 =>
    have ht := h.tk hk (b := T.b) (by rw [hrb]; simp [role, hp])
    obtain ⟨⟨h0, rfl⟩ | ⟨h0, rfl⟩, rfl⟩ := hst
    · exact ⟨(ht.2 h0).2.2, Nat.le_refl _, hbd⟩
    · exact hh _ _ (fun _ => ht.1 h0) (fun _ => rfl) (Nat.zero_le _) hbd
  case mr3 =>
    obtain ⟨l1, l2, l3⟩ := hl
    obtain ⟨rfl, rfl⟩ := hst
    exact hh _ _ (fun e => (h.aw hk (by rw [hrb]; simp only [role, hp]; exact if_pos e)).1) l1 l2 hbd
  case u0 =>
    obtain ⟨rfl, ⟨h0, rfl⟩ | ⟨h0, h1, rfl⟩ | ⟨h0, h1, h2, rfl⟩⟩ := hst
    · trivial
    · trivial
    · exact ⟨rfl, h2, h0, h1, hbd⟩
  case uc =>
    rcases hst with ⟨_, rfl, rfl⟩ | ⟨_, rfl, rfl⟩ <;> trivial
  case ux =>
    obtain ⟨⟨h0, rfl⟩ | ⟨h1, h2, h3, h4, rfl⟩, rfl⟩ := hst
    · trivial
    · exact ⟨h1, h2, h3, h4, hbd⟩
  case bx => obtain ⟨⟨z, rfl⟩, rfl⟩ := hst; trivial
  case m0 => rcases hst with ⟨_, rfl, rfl⟩ | ⟨_, rfl, rfl⟩ <;> trivial
  case ms1 => obtain ⟨_, rfl, rfl | rfl⟩ := hst <;> trivial
  case mt2 => obtain ⟨rfl | rfl, rfl⟩ := hst <;> trivial
  case ma => obtain ⟨rfl, rfl⟩ := hst; cases T.b <;> trivial
  case dn1 => obtain ⟨rfl, rfl⟩ := hst; cases s'.done <;> trivial
  case al => obtain ⟨z, rfl, rfl⟩ := hst; trivial
  case lk2 => obtain ⟨⟨_, rfl⟩ | ⟨_, rfl⟩, rfl⟩ := hst <;> trivial
  case dr => obtain ⟨rfl | rfl, rfl⟩ := hst <;> trivial
  case ue => obtain ⟨hst, rfl⟩ := hst; cases hb : T.b <;> simp only [hb, if_true, if_false, Bool.false_eq_true] at hst <;> subst hst <;> trivial
  case wf => obtain ⟨rfl, rfl⟩ := hst; by_cases e : T.i + W < n <;> simp only [e, if_true, if_false] <;> trivial
  case d1 => obtain ⟨rfl, rfl⟩ := hst; by_cases e : s.wv = 1 ∧ s.ww = 1 <;> simp only [e, if_true, if_false, and_self] <;> trivial
  all_goals (obtain ⟨rfl, rfl⟩ := hst; trivial)
end
end Go.Proofs.Ytnlopklbbajlbaa.Sw
