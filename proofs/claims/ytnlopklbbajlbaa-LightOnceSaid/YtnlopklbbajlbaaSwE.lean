/- LightOnce: what always holds (2): the once, the map's names, the answers, the group; a worker's step keeps it. -/
import Derived.Test.YtnlopklbbajlbaaSwC
namespace Go.Proofs.Ytnlopklbbajlbaa.Sw
open Go.ConcN (sumTo upd sumTo_upd upd_same upd_ne sumTo_congr le_sumTo sumTo_le)

def item (p : Pc) : Bool :=
  match p with
  | .wr | .wk | .d1 | .d2 | .d3 | .d4 | .quit => false
  | _ => true
def LocI (W n k : Nat) (T : Wk) : Prop := T.i % W = k ∧ (item T.pc = true → T.i < n) ∧ (item T.pc = false → n ≤ T.i)
def LocO (T : Wk) (s : Sh) : Prop :=
  match T.pc with
  | .al => T.b = true ∧ s.done = false ∧ s.st = 0
  | .sl => T.b = true ∧ s.done = false ∧ s.st = 1 ∧ s.mp = T.m
  | .dst => T.b = true ∧ s.done = false ∧ s.st = 2
  | .dn1 => T.b = true
  | .lk1 | .lk2 | .dr | .ia1 | .ian | .iba | .ibr | .in2 | .wf => T.b = false ∧ s.done = true
  | .ur | .ud | .u0 | .uc | .ux | .us | .ue => s.done = true
  | .md | .m0 | .mr0 | .msq | .mc1 | .mr1 | .mc2 | .mt1 | .ms1 | .mt2 | .mr2 | .ma1 | .mr3 | .me | .ma => T.b = false → s.done = true
  | _ => True
def post (T : Wk) : Bool :=
  match T.pc with
  | .ur | .ud | .u0 | .uc | .ux | .us | .ue => !T.b
  | .wf => true
  | _ => false
def did (T : Wk) (i : Nat) : Prop := i < T.i ∨ (i = T.i ∧ post T = true)
def adding (T : Wk) : Bool :=
  match T.pc with
  | .in2 | .ibr => true
  | _ => false
def LocC (nm : Nat → ByteArray) (S0 : List ByteArray) (T : Wk) (s : Sh) : Prop :=
  match T.pc with
  | .dr | .ia1 | .ian | .iba | .ibr | .in2 => nm T.i ∉ s.con
  | .ur | .ud | .u0 | .uc | .ux | .us | .ue => T.b = false → (T.r = true ↔ nm T.i ∉ S0)
  | .wf => T.r = true ↔ nm T.i ∉ S0
  | _ => True

/-- The once. -/
structure Onc (th : Nat → Wk) (j : Nat) (s : Sh) : Prop where
  loc : ∀ k, k < j → LocO (th k) s
  no : s.done = false → s.st = 0 ∨ ∃ k, k < j ∧ ((th k).pc = .sl ∨ (th k).pc = .dst)
  yes : s.done = true → s.st = 2
/-- The names and the answers. -/
structure Cont (W n : Nat) (nm : Nat → ByteArray) (S0 : List ByteArray) (th : Nat → Wk) (j : Nat) (s : Sh) : Prop where
  item : ∀ k, k < j → LocI W n k (th k)
  loc : ∀ k, k < j → LocC nm S0 (th k) s
  nodup : s.con.Nodup
  mem : ∀ x, x ∈ s.con ↔ x ∈ S0 ∨ ∃ i, i < n ∧ i % W < j ∧ did (th (i % W)) i ∧ nm i = x
  num : s.num = s.con.length + sumTo j fun k => ind (adding (th k) = true)
  fr : ∀ i, i < n → (s.fr i = true ↔ (i % W < j ∧ i < (th (i % W)).i ∧ nm i ∉ S0))

section
variable {th : Nat → Wk} {j k : Nat} {T X : Wk} {W n : Nat} {nm : Nat → ByteArray} {S0 : List ByteArray} {s s' : Sh} {B : Nat}

theorem put_done (s : Sh) (b : Bool) (x : Mx) : (s.put b x).done = s.done := by cases b <;> rfl
theorem put_st (s : Sh) (b : Bool) (x : Mx) : (s.put b x).st = s.st := by cases b <;> rfl
theorem put_mp (s : Sh) (b : Bool) (x : Mx) : (s.put b x).mp = s.mp := by cases b <;> rfl
theorem put_con (s : Sh) (b : Bool) (x : Mx) : (s.put b x).con = s.con := by cases b <;> rfl
theorem put_num (s : Sh) (b : Bool) (x : Mx) : (s.put b x).num = s.num := by cases b <;> rfl
theorem put_fr (s : Sh) (b : Bool) (x : Mx) : (s.put b x).fr = s.fr := by cases b <;> rfl
theorem put_wv (s : Sh) (b : Bool) (x : Mx) : (s.put b x).wv = s.wv := by cases b <;> rfl
theorem put_ww (s : Sh) (b : Bool) (x : Mx) : (s.put b x).ww = s.ww := by cases b <;> rfl
theorem put_ws (s : Sh) (b : Bool) (x : Mx) : (s.put b x).ws = s.ws := by cases b <;> rfl
theorem head_i (T : Wk) : (head T).i = T.i := by unfold head; split <;> rfl
theorem head_r (T : Wk) : (head T).r = T.r := by unfold head; split <;> rfl

/-- What a worker's step does to everything but the mutexes. -/
structure Rest (T X : Wk) (s s' : Sh) (W n : Nat) (nm : Nat → ByteArray) : Prop where
  done : s'.done = if T.pc = .dst then true else s.done
  st : s'.st = if T.pc = .al then 1 else if T.pc = .sl then 2 else s.st
  mp : T.pc ≠ .al → s'.mp = s.mp
  mpX : T.pc = .al → s'.mp = X.m
  con : s'.con = if T.pc = .in2 then s.con ++ [nm T.i] else s.con
  num : s'.num = if T.pc = .ian ∨ T.pc = .iba then s.num + 1 else s.num
  fr : s'.fr = if T.pc = .wf then upd s.fr T.i T.r else s.fr
  wv : s'.wv = if T.pc = .d1 then s.wv - 1 else s.wv
  ww : s'.ww = if T.pc = .d3 then 0 else s.ww
  ws : s'.ws = if T.pc = .d4 then s.ws + 1 else s.ws
  i : X.i = if T.pc = .wf then T.i + W else T.i

theorem step_rest (h : Step W n nm T s X s') : Rest T X s s' W n nm := by
  cases hp : T.pc <;> simp only [Step, hp] at h
  case bx => obtain ⟨⟨z, rfl⟩, rfl⟩ := h; constructor <;> simp [hp]
  case m0 => rcases h with ⟨_, rfl, rfl⟩ | ⟨_, rfl, rfl⟩ <;> constructor <;> simp [hp, put_done, put_st, put_mp, put_con, put_num, put_fr, put_wv, put_ww, put_ws]
  case msq => obtain ⟨rfl, rfl | ⟨_, _, _, rfl⟩ | ⟨_, rfl⟩⟩ := h <;> constructor <;> simp [hp]
  case mc1 => rcases h with ⟨_, rfl, rfl⟩ | ⟨_, rfl, rfl⟩ <;> constructor <;> simp [hp, put_done, put_st, put_mp, put_con, put_num, put_fr, put_wv, put_ww, put_ws]
  case mc2 => rcases h with ⟨_, rfl, ⟨_, _, rfl⟩ | ⟨_, rfl | rfl⟩⟩ | ⟨_, rfl, rfl⟩ <;> constructor <;> simp [hp, put_done, put_st, put_mp, put_con, put_num, put_fr, put_wv, put_ww, put_ws]
  case ms1 => obtain ⟨_, rfl, rfl | rfl⟩ := h <;> constructor <;> simp [hp, put_done, put_st, put_mp, put_con, put_num, put_fr, put_wv, put_ww, put_ws]
  case mt2 => obtain ⟨rfl | rfl, rfl⟩ := h <;> constructor <;> simp [hp]
  case mr2 => obtain ⟨⟨h0, rfl⟩ | ⟨h0, rfl⟩, rfl⟩ := h <;> constructor <;> simp [hp, head_i]
  case ma => obtain ⟨rfl, rfl⟩ := h; constructor <;> simp [hp]
  case al => obtain ⟨z, rfl, rfl⟩ := h; constructor <;> simp [hp]
  case lk2 => obtain ⟨⟨_, rfl⟩ | ⟨_, rfl⟩, rfl⟩ := h <;> constructor <;> simp [hp]
  case dr => obtain ⟨rfl | rfl, rfl⟩ := h <;> constructor <;> simp [hp]
  case u0 => obtain ⟨rfl, ⟨h0, rfl⟩ | ⟨h0, h1, rfl⟩ | ⟨h0, h1, h2, rfl⟩⟩ := h <;> constructor <;> simp [hp, put_done, put_st, put_mp, put_con, put_num, put_fr, put_wv, put_ww, put_ws]
  case uc => rcases h with ⟨_, rfl, rfl⟩ | ⟨_, rfl, rfl⟩ <;> constructor <;> simp [hp, put_done, put_st, put_mp, put_con, put_num, put_fr, put_wv, put_ww, put_ws]
  case ux => obtain ⟨⟨h0, rfl⟩ | ⟨h1, h2, h3, h4, rfl⟩, rfl⟩ := h <;> constructor <;> simp [hp]
  case ue => obtain ⟨h, rfl⟩ := h; cases hb : T.b <;> simp only [hb, if_true, if_false, Bool.false_eq_true] at h <;> subst h <;> constructor <;> simp [hp]
  all_goals (obtain ⟨rfl, rfl⟩ := h; constructor <;> simp [hp, head_i, put_done, put_st, put_mp, put_con, put_num, put_fr, put_wv, put_ww, put_ws])
end
end Go.Proofs.Ytnlopklbbajlbaa.Sw

namespace Go.Proofs.Ytnlopklbbajlbaa.Sw
open Go.ConcN (sumTo upd sumTo_upd upd_same upd_ne sumTo_congr le_sumTo sumTo_le)

section
variable {th : Nat → Wk} {j k : Nat} {T X : Wk} {W n : Nat} {nm : Nat → ByteArray} {S0 : List ByteArray} {s s' : Sh} {B : Nat}

theorem LocO.congr (h : LocO T s) (h1 : s'.done = s.done) (h2 : s'.st = s.st) (h3 : s'.mp = s.mp) : LocO T s' := by
  unfold LocO at *
  cases hp : T.pc <;> simp only [hp] at h ⊢ <;> first | exact h | (rw [h1]; exact h) | (rw [h1, h2]; exact h) | (rw [h1, h2, h3]; exact h)
theorem LocO.mono (h : LocO T s) (h1 : s.done = true → s'.done = true) (n1 : T.pc ≠ .al) (n2 : T.pc ≠ .sl) (n3 : T.pc ≠ .dst) : LocO T s' := by
  unfold LocO at *
  cases hp : T.pc <;> simp only [hp] at h ⊢ <;> first | exact h | exact h1 h | exact ⟨h.1, h1 h.2⟩ | exact fun e => h1 (h e) | exact absurd hp n1 | exact absurd hp n2 | exact absurd hp n3
theorem done_mono (r : Rest T X s s' W n nm) (h : s.done = true) : s'.done = true := by rw [r.done]; split; rfl; exact h
/-- Whoever makes or lays the map, or ends the once, holds the once's mutex. -/
theorem LocO.holds (h : LocO T s) (hp : T.pc = .al ∨ T.pc = .sl ∨ T.pc = .dst ∨ T.pc = .dn1) : rb T true = 1 := by
  unfold LocO at h
  rcases hp with hp | hp | hp | hp <;> simp only [hp] at h
  · simp [rb, h.1, role, hp]
  · simp [rb, h.1, role, hp]
  · simp [rb, h.1, role, hp]
  · simp [rb, h, role, hp]

theorem LocO.own (h : LocO T s) (hst : Step W n nm T s X s') (h0 : T.pc = .dn1 → s.done = false → s.st = 0) : LocO X s' := by
  unfold LocO at h
  have hh : ∀ (T : Wk) (s : Sh), (T.b = false → s.done = true) → LocO (head T) s := by
    intro T s h1
    unfold head
    split <;> exact h1
  cases hp : T.pc <;> simp only [Step, hp] at hst h
  case bx => obtain ⟨⟨z, rfl⟩, rfl⟩ := hst; trivial
  case dn0 => obtain ⟨rfl, rfl⟩ := hst; show (!s'.done) = false → _; simp
  case md => obtain ⟨rfl, rfl⟩ := hst; exact h
  case m0 => rcases hst with ⟨_, rfl, rfl⟩ | ⟨_, rfl, rfl⟩; exact fun e => (put_done _ _ _).trans (h e); exact h
  case mr0 => obtain ⟨rfl, rfl⟩ := hst; exact hh _ _ h
  case msq => obtain ⟨rfl, rfl | ⟨_, _, _, rfl⟩ | ⟨_, rfl⟩⟩ := hst <;> exact h
  case mc1 => rcases hst with ⟨_, rfl, rfl⟩ | ⟨_, rfl, rfl⟩; exact fun e => (put_done _ _ _).trans (h e); exact h
  case mr1 => obtain ⟨rfl, rfl⟩ := hst; exact hh _ _ h
  case mc2 => rcases hst with ⟨_, rfl, ⟨_, _, rfl⟩ | ⟨_, rfl | rfl⟩⟩ | ⟨_, rfl, rfl⟩ <;> first | exact fun e => (put_done _ _ _).trans (h e) | exact h
  case mt1 => obtain ⟨rfl, rfl⟩ := hst; exact h
  case ms1 => obtain ⟨_, rfl, rfl | rfl⟩ := hst <;> exact fun e => (put_done _ _ _).trans (h e)
  case mt2 => obtain ⟨rfl | rfl, rfl⟩ := hst <;> exact h
  case mr2 => obtain ⟨⟨_, rfl⟩ | ⟨_, rfl⟩, rfl⟩ := hst; exact h; exact hh _ _ h
  case ma1 => obtain ⟨rfl, rfl⟩ := hst; exact fun e => (put_done _ _ _).trans (h e)
  case mr3 => obtain ⟨rfl, rfl⟩ := hst; exact hh _ _ h
  case me => obtain ⟨rfl, rfl⟩ := hst; exact h
  case ma => obtain ⟨rfl, rfl⟩ := hst; cases hb : T.b; exact ⟨rfl, h hb⟩; rfl
  case dn1 =>
    obtain ⟨rfl, rfl⟩ := hst
    cases hd : s'.done
    · exact ⟨h, hd, h0 hp hd⟩
    · exact hd
  case al => obtain ⟨z, rfl, rfl⟩ := hst; exact ⟨h.1, h.2.1, rfl, rfl⟩
  case sl => obtain ⟨rfl, rfl⟩ := hst; exact ⟨h.1, h.2.1, rfl⟩
  case dst => obtain ⟨rfl, rfl⟩ := hst; rfl
  case lk2 => obtain ⟨⟨_, rfl⟩ | ⟨_, rfl⟩, rfl⟩ := hst; exact h.2; exact h
  case dr => obtain ⟨rfl | rfl, rfl⟩ := hst <;> exact h
  case in2 => obtain ⟨rfl, rfl⟩ := hst; exact h.2
  case u0 => obtain ⟨rfl, ⟨_, rfl⟩ | ⟨_, _, rfl⟩ | ⟨_, _, _, rfl⟩⟩ := hst <;> exact (put_done _ _ _).trans h
  case uc => rcases hst with ⟨_, rfl, rfl⟩ | ⟨_, rfl, rfl⟩; exact (put_done _ _ _).trans h; exact h
  case ux => obtain ⟨⟨_, rfl⟩ | ⟨_, _, _, _, rfl⟩, rfl⟩ := hst <;> exact h
  case us => obtain ⟨rfl, rfl⟩ := hst; exact (put_done _ _ _).trans h
  case ue =>
    obtain ⟨hst, rfl⟩ := hst
    cases hb : T.b <;> simp only [hb, if_true, if_false, Bool.false_eq_true] at hst <;> subst hst
    · exact ⟨rfl, h⟩
    · exact fun _ => h
  case wf => obtain ⟨rfl, rfl⟩ := hst; by_cases e : T.i + W < n <;> simp only [LocO, e, if_true, if_false]
  case d1 => obtain ⟨rfl, rfl⟩ := hst; by_cases e : s.wv = 1 ∧ s.ww = 1 <;> simp only [LocO, e, if_true, if_false, and_self]
  all_goals (obtain ⟨rfl, rfl⟩ := hst; first | trivial | exact h)

/-- ████ THE ONCE, through a worker's step. ████ -/
theorem Onc.stepS (h : Onc th j s) (hm : MB th j s) (hk : k < j) (hT : th k = T) (hst : Step W n nm T s X s') (c' : Nat) : Onc (upd th k { X with c := c' }) j s' := by
  have r := step_rest hst
  have hO := h.loc k hk
  rw [hT] at hO
  have hdn : T.pc = .dn1 → s.done = false → s.st = 0 := fun hp hd => by
    rcases h.no hd with h0 | ⟨k', hk', hp'⟩
    · exact h0
    · have e := hm.one hk hk' (b := true) (by rw [hT]; exact hO.holds (.inr (.inr (.inr hp)))) ((h.loc k' hk').holds (by rcases hp' with x | x <;> simp [x]))
      subst e
      rw [hT, hp] at hp'
      rcases hp' with x | x <;> cases x
  have hX := hO.own hst hdn
  refine ⟨fun k' hk' => ?_, fun hd => ?_, fun hd => ?_⟩
  · by_cases e : k' = k
    · subst e; rw [upd_same]; exact hX
    · rw [upd_ne _ _ e]
      have ho := h.loc k' hk'
      by_cases hp : T.pc = .al ∨ T.pc = .sl ∨ T.pc = .dst
      · have h1 : rb (th k) true = 1 := by rw [hT]; exact hO.holds (by rcases hp with x | x | x <;> simp [x])
        have hne : ∀ p, (p = .al ∨ p = .sl ∨ p = .dst) → (th k').pc ≠ p := fun p hp' ep => by
          have := hm.one hk hk' (b := true) h1 (ho.holds (by rw [ep]; rcases hp' with x | x | x <;> simp [x]))
          exact e this.symm
        exact ho.mono (done_mono r) (hne _ (.inl rfl)) (hne _ (.inr (.inl rfl))) (hne _ (.inr (.inr rfl)))
      · have n1 : T.pc ≠ .al := fun x => hp (.inl x)
        have n2 : T.pc ≠ .sl := fun x => hp (.inr (.inl x))
        have n3 : T.pc ≠ .dst := fun x => hp (.inr (.inr x))
        exact ho.congr (by rw [r.done, if_neg n3]) (by rw [r.st, if_neg n1, if_neg n2]) (r.mp n1)
  · have hd0 : s.done = false := by cases e : s.done; rfl; rw [done_mono r e] at hd; cases hd
    by_cases n1 : T.pc = .al
    · refine .inr ⟨k, hk, .inl ?_⟩
      rw [upd_same]
      simp only [Step, n1] at hst
      obtain ⟨z, rfl, _⟩ := hst
      rfl
    by_cases n2 : T.pc = .sl
    · refine .inr ⟨k, hk, .inr ?_⟩
      rw [upd_same]
      simp only [Step, n2] at hst
      obtain ⟨rfl, _⟩ := hst
      rfl
    have n3 : T.pc ≠ .dst := fun x => by rw [r.done, if_pos x] at hd; cases hd
    rcases h.no hd0 with h0 | ⟨k', hk', hp'⟩
    · left; rw [r.st, if_neg n1, if_neg n2]; exact h0
    · refine .inr ⟨k', hk', ?_⟩
      have e : k' ≠ k := fun e => by subst e; rw [hT] at hp'; rcases hp' with x | x; exact n2 x; exact n3 x
      rw [upd_ne _ _ e]
      exact hp'
  · by_cases n3 : T.pc = .dst
    · simp only [LocO, n3] at hO
      rw [r.st, n3]
      exact hO.2.2
    · have hd0 : s.done = true := by rw [r.done, if_neg n3] at hd; exact hd
      have n1 : T.pc ≠ .al := fun x => by simp only [LocO, x] at hO; rw [hd0] at hO; cases hO.2.1
      have n2 : T.pc ≠ .sl := fun x => by simp only [LocO, x] at hO; rw [hd0] at hO; cases hO.2.1
      rw [r.st, if_neg n1, if_neg n2]
      exact h.yes hd0

theorem item_step (hst : Step W n nm T s X s') (hp' : T.pc ≠ .wf) : item X.pc = item T.pc := by
  have hh : ∀ T : Wk, item (head T).pc = true := by intro T; unfold head; split <;> rfl
  cases hp : T.pc <;> simp only [Step, hp] at hst
  case bx => obtain ⟨⟨z, rfl⟩, rfl⟩ := hst; rfl
  case m0 => rcases hst with ⟨_, rfl, rfl⟩ | ⟨_, rfl, rfl⟩ <;> rfl
  case mr0 => obtain ⟨rfl, rfl⟩ := hst; exact hh _
  case msq => obtain ⟨rfl, rfl | ⟨_, _, _, rfl⟩ | ⟨_, rfl⟩⟩ := hst <;> rfl
  case mc1 => rcases hst with ⟨_, rfl, rfl⟩ | ⟨_, rfl, rfl⟩ <;> rfl
  case mr1 => obtain ⟨rfl, rfl⟩ := hst; exact hh _
  case mc2 => rcases hst with ⟨_, rfl, ⟨_, _, rfl⟩ | ⟨_, rfl | rfl⟩⟩ | ⟨_, rfl, rfl⟩ <;> rfl
  case ms1 => obtain ⟨_, rfl, rfl | rfl⟩ := hst <;> rfl
  case mt2 => obtain ⟨rfl | rfl, rfl⟩ := hst <;> rfl
  case mr2 => obtain ⟨⟨_, rfl⟩ | ⟨_, rfl⟩, rfl⟩ := hst; rfl; exact hh _
  case mr3 => obtain ⟨rfl, rfl⟩ := hst; exact hh _
  case ma => obtain ⟨rfl, rfl⟩ := hst; cases T.b <;> rfl
  case dn1 => obtain ⟨rfl, rfl⟩ := hst; cases s'.done <;> rfl
  case al => obtain ⟨z, rfl, rfl⟩ := hst; rfl
  case lk2 => obtain ⟨⟨_, rfl⟩ | ⟨_, rfl⟩, rfl⟩ := hst <;> rfl
  case dr => obtain ⟨rfl | rfl, rfl⟩ := hst <;> rfl
  case u0 => obtain ⟨rfl, ⟨_, rfl⟩ | ⟨_, _, rfl⟩ | ⟨_, _, _, rfl⟩⟩ := hst <;> rfl
  case uc => rcases hst with ⟨_, rfl, rfl⟩ | ⟨_, rfl, rfl⟩ <;> rfl
  case ux => obtain ⟨⟨_, rfl⟩ | ⟨_, _, _, _, rfl⟩, rfl⟩ := hst <;> rfl
  case ue => obtain ⟨hst, rfl⟩ := hst; cases hb : T.b <;> simp only [hb, if_true, if_false, Bool.false_eq_true] at hst <;> subst hst <;> rfl
  case wf => exact absurd hp hp'
  case d1 => obtain ⟨rfl, rfl⟩ := hst; by_cases e : s.wv = 1 ∧ s.ww = 1 <;> simp only [e, if_true, if_false, and_self] <;> rfl
  all_goals (obtain ⟨rfl, rfl⟩ := hst; rfl)
theorem LocI.own (h : LocI W n k T) (hst : Step W n nm T s X s') : LocI W n k X := by
  obtain ⟨h1, h2, h3⟩ := h
  have r := step_rest hst
  by_cases hp : T.pc = .wf
  · simp only [Step, hp] at hst
    obtain ⟨rfl, rfl⟩ := hst
    refine ⟨by simpa using h1, fun e => ?_, fun e => ?_⟩
    · by_cases c : T.i + W < n
      · exact c
      · simp only [c, if_false] at e; cases e
    · by_cases c : T.i + W < n
      · simp only [c, if_true] at e; cases e
      · show n ≤ T.i + W; omega
  · have e1 : X.i = T.i := by rw [r.i, if_neg hp]
    have e2 := item_step hst hp
    exact ⟨by rw [e1]; exact h1, fun e => by rw [e1]; exact h2 (by rw [← e2]; exact e), fun e => by rw [e1]; exact h3 (by rw [← e2]; exact e)⟩
end
end Go.Proofs.Ytnlopklbbajlbaa.Sw
