/- LightOnce: a worker's step keeps what holds of the names and the answers, and of the group. -/
import Derived.Test.YtnlopklbbajlbaaSwE
namespace Go.Proofs.Ytnlopklbbajlbaa.Sw
open Go.ConcN (sumTo upd sumTo_upd upd_same upd_ne sumTo_congr le_sumTo sumTo_le)

section
variable {th : Nat → Wk} {j k : Nat} {T X : Wk} {W n : Nat} {nm : Nat → ByteArray} {S0 : List ByteArray} {s s' : Sh} {B : Nat}

theorem mod_gap {a b W : Nat} (h : a % W = b % W) (h1 : a < b + W) (h2 : ¬ a ≤ b) : False := by
  have e1 := Nat.div_add_mod a W
  have e2 := Nat.div_add_mod b W
  have hlt : b / W < a / W := by
    refine Classical.byContradiction fun hc => ?_
    have : W * (a / W) ≤ W * (b / W) := Nat.mul_le_mul_left W (by omega)
    omega
  have : W * (b / W + 1) ≤ W * (a / W) := Nat.mul_le_mul_left W hlt
  rw [Nat.mul_add] at this
  omega

theorem LocC.own (h : LocC nm S0 T s) (hO : LocO T s) (hst : Step W n nm T s X s') (hin : T.pc = .lk2 → (nm T.i ∈ s.con ↔ nm T.i ∈ S0)) (hsub : ∀ x, x ∈ S0 → x ∈ s.con) : LocC nm S0 X s' := by
  unfold LocC at h
  unfold LocO at hO
  have hh : ∀ (T : Wk) (s : Sh), LocC nm S0 (head T) s := by intro T s; unfold head; split <;> trivial
  cases hp : T.pc <;> simp only [Step, hp] at hst h hO
  case bx => obtain ⟨⟨z, rfl⟩, rfl⟩ := hst; trivial
  case m0 => rcases hst with ⟨_, rfl, rfl⟩ | ⟨_, rfl, rfl⟩ <;> trivial
  case mr0 => obtain ⟨rfl, rfl⟩ := hst; exact hh _ _
  case msq => obtain ⟨rfl, rfl | ⟨_, _, _, rfl⟩ | ⟨_, rfl⟩⟩ := hst <;> trivial
  case mc1 => rcases hst with ⟨_, rfl, rfl⟩ | ⟨_, rfl, rfl⟩ <;> trivial
  case mr1 => obtain ⟨rfl, rfl⟩ := hst; exact hh _ _
  case mc2 => rcases hst with ⟨_, rfl, ⟨_, _, rfl⟩ | ⟨_, rfl | rfl⟩⟩ | ⟨_, rfl, rfl⟩ <;> trivial
  case ms1 => obtain ⟨_, rfl, rfl | rfl⟩ := hst <;> trivial
  case mt2 => obtain ⟨rfl | rfl, rfl⟩ := hst <;> trivial
  case mr2 => obtain ⟨⟨_, rfl⟩ | ⟨_, rfl⟩, rfl⟩ := hst; trivial; exact hh _ _
  case mr3 => obtain ⟨rfl, rfl⟩ := hst; exact hh _ _
  case ma => obtain ⟨rfl, rfl⟩ := hst; cases T.b <;> trivial
  case dn1 => obtain ⟨rfl, rfl⟩ := hst; cases hd : s'.done; trivial; exact fun e => (by rw [show T.b = true from hO] at e; cases e)
  case al => obtain ⟨z, rfl, rfl⟩ := hst; trivial
  case dst => obtain ⟨rfl, rfl⟩ := hst; exact fun e => (by rw [show T.b = true from hO.1] at e; cases e)
  case lk2 =>
    obtain ⟨⟨h1, rfl⟩ | ⟨h1, rfl⟩, rfl⟩ := hst
    · exact fun _ => ⟨fun e => (by cases e), fun e => absurd ((hin hp).1 h1) e⟩
    · exact h1
  case dr => obtain ⟨rfl | rfl, rfl⟩ := hst <;> exact h
  case ia1 => obtain ⟨rfl, rfl⟩ := hst; exact h
  case ian => obtain ⟨rfl, rfl⟩ := hst; exact h
  case iba => obtain ⟨rfl, rfl⟩ := hst; exact h
  case ibr => obtain ⟨rfl, rfl⟩ := hst; exact h
  case in2 => obtain ⟨rfl, rfl⟩ := hst; exact fun _ => ⟨fun _ x => h (hsub _ x), fun _ => rfl⟩
  case ur => obtain ⟨rfl, rfl⟩ := hst; exact h
  case ud => obtain ⟨rfl, rfl⟩ := hst; exact h
  case u0 => obtain ⟨rfl, ⟨_, rfl⟩ | ⟨_, _, rfl⟩ | ⟨_, _, _, rfl⟩⟩ := hst <;> exact h
  case uc => rcases hst with ⟨_, rfl, rfl⟩ | ⟨_, rfl, rfl⟩ <;> exact h
  case ux => obtain ⟨⟨_, rfl⟩ | ⟨_, _, _, _, rfl⟩, rfl⟩ := hst <;> exact h
  case us => obtain ⟨rfl, rfl⟩ := hst; exact h
  case ue =>
    obtain ⟨hst, rfl⟩ := hst
    cases hb : T.b <;> simp only [hb, if_true, if_false, Bool.false_eq_true] at hst <;> subst hst
    · exact h hb
    · trivial
  case wf => obtain ⟨rfl, rfl⟩ := hst; by_cases e : T.i + W < n <;> simp only [LocC, e, if_true, if_false]
  case d1 => obtain ⟨rfl, rfl⟩ := hst; by_cases e : s.wv = 1 ∧ s.ww = 1 <;> simp only [LocC, e, if_true, if_false, and_self]
  all_goals (obtain ⟨rfl, rfl⟩ := hst; trivial)

/-- What is done, behind a step. -/
theorem did_step (hW : 0 < W) (hst : Step W n nm T s X s') (hO : LocO T s) {i : Nat} (hi : i % W = T.i % W) :
    did X i ↔ did T i ∨ (i = T.i ∧ (T.pc = .in2 ∨ (T.pc = .lk2 ∧ nm T.i ∈ s.con))) := by
  have r := step_rest hst
  by_cases hw : T.pc = .wf
  · simp only [Step, hw] at hst
    obtain ⟨rfl, _⟩ := hst
    have hpost : post { T with pc := if T.i + W < n then Pc.bx else .wr, i := T.i + W } = false := by by_cases e : T.i + W < n <;> simp [post, e]
    have hpT : post T = true := by simp [post, hw]
    simp only [did, hpost, hpT, hw]
    constructor
    · rintro (h | ⟨_, h⟩)
      · rcases Nat.lt_or_ge T.i i with h1 | h1
        · exact (mod_gap hi h (by omega)).elim
        · rcases Nat.lt_or_eq_of_le h1 with h2 | h2
          · exact .inl (.inl h2)
          · exact .inl (.inr ⟨h2, trivial⟩)
      · cases h
    · rintro ((h | ⟨h, _⟩) | ⟨_, h | ⟨h, _⟩⟩)
      · exact .inl (by omega)
      · left
        omega
      · cases h
      · cases h
  have ei : X.i = T.i := by rw [r.i, if_neg hw]
  have hh : ∀ T : Wk, post (head T) = false := by intro T; unfold head; split <;> rfl
  have key : post X = true ↔ post T = true ∨ (T.pc = .in2 ∨ (T.pc = .lk2 ∧ nm T.i ∈ s.con)) := by
    unfold LocO at hO
    cases hp : T.pc <;> simp only [Step, hp] at hst hO
    case bx => obtain ⟨⟨z, rfl⟩, rfl⟩ := hst; simp [post, hp]
    case m0 => rcases hst with ⟨_, rfl, rfl⟩ | ⟨_, rfl, rfl⟩ <;> simp [post, *]
    case mr0 => obtain ⟨rfl, rfl⟩ := hst; rw [hh]; simp [post, hp]
    case msq => obtain ⟨rfl, rfl | ⟨_, _, _, rfl⟩ | ⟨_, rfl⟩⟩ := hst <;> simp [post, *]
    case mc1 => rcases hst with ⟨_, rfl, rfl⟩ | ⟨_, rfl, rfl⟩ <;> simp [post, *]
    case mr1 => obtain ⟨rfl, rfl⟩ := hst; rw [hh]; simp [post, hp]
    case mc2 => rcases hst with ⟨_, rfl, ⟨_, _, rfl⟩ | ⟨_, rfl | rfl⟩⟩ | ⟨_, rfl, rfl⟩ <;> simp [post, *]
    case ms1 => obtain ⟨_, rfl, rfl | rfl⟩ := hst <;> simp [post, *]
    case mt2 => obtain ⟨rfl | rfl, rfl⟩ := hst <;> simp [post, *]
    case mr2 =>
      obtain ⟨⟨_, rfl⟩ | ⟨_, rfl⟩, rfl⟩ := hst
      · simp [post, hp]
      · rw [hh]; simp [post, hp]
    case mr3 => obtain ⟨rfl, rfl⟩ := hst; rw [hh]; simp [post, hp]
    case ma => obtain ⟨rfl, rfl⟩ := hst; cases T.b <;> simp [post, *]
    case dn1 => obtain ⟨rfl, rfl⟩ := hst; have hb : T.b = true := hO; cases s'.done <;> simp [post, hp, hb]
    case al => obtain ⟨z, rfl, rfl⟩ := hst; simp [post, hp]
    case dst => obtain ⟨rfl, rfl⟩ := hst; simp [post, hp, show T.b = true from hO.1]
    case lk2 =>
      obtain ⟨⟨h1, rfl⟩ | ⟨h1, rfl⟩, rfl⟩ := hst
      · simp [post, hp, h1, show T.b = false from hO.1]
      · simp [post, hp, h1]
    case dr => obtain ⟨rfl | rfl, rfl⟩ := hst <;> simp [post, *]
    case in2 => obtain ⟨rfl, rfl⟩ := hst; simp [post, hp, show T.b = false from hO.1]
    case u0 => obtain ⟨rfl, ⟨_, rfl⟩ | ⟨_, _, rfl⟩ | ⟨_, _, _, rfl⟩⟩ := hst <;> simp [post, *]
    case uc => rcases hst with ⟨_, rfl, rfl⟩ | ⟨_, rfl, rfl⟩ <;> simp [post, *]
    case ux => obtain ⟨⟨_, rfl⟩ | ⟨_, _, _, _, rfl⟩, rfl⟩ := hst <;> simp [post, *]
    case ue => obtain ⟨hst, rfl⟩ := hst; cases hb : T.b <;> simp only [hb, if_true, if_false, Bool.false_eq_true] at hst <;> subst hst <;> simp [post, *]
    case wf => exact absurd hp hw
    case d1 => obtain ⟨rfl, rfl⟩ := hst; by_cases e : s.wv = 1 ∧ s.ww = 1 <;> simp [post, hp, e]
    all_goals (obtain ⟨rfl, rfl⟩ := hst; simp [post, hp])
  unfold did
  rw [ei, key]
  constructor
  · rintro (h | ⟨h, h1 | h1⟩)
    · exact .inl (.inl h)
    · exact .inl (.inr ⟨h, h1⟩)
    · exact .inr ⟨h, h1⟩
  · rintro ((h | ⟨h, h1⟩) | ⟨h, h1⟩)
    · exact .inl h
    · exact .inr ⟨h, .inl h1⟩
    · exact .inr ⟨h, .inr h1⟩

theorem adding_step (hst : Step W n nm T s X s') : ind (adding X = true) + ind (T.pc = .in2) = ind (adding T = true) + ind (T.pc = .ian ∨ T.pc = .iba) := by
  have hh : ∀ T : Wk, adding (head T) = false := by intro T; unfold head; split <;> rfl
  cases hp : T.pc <;> simp only [Step, hp] at hst
  case bx => obtain ⟨⟨z, rfl⟩, rfl⟩ := hst; simp [adding, ind, hp]
  case m0 => rcases hst with ⟨_, rfl, rfl⟩ | ⟨_, rfl, rfl⟩ <;> simp [adding, ind, hp]
  case mr0 => obtain ⟨rfl, rfl⟩ := hst; rw [hh]; simp [adding, ind, hp]
  case msq => obtain ⟨rfl, rfl | ⟨_, _, _, rfl⟩ | ⟨_, rfl⟩⟩ := hst <;> simp [adding, ind, hp]
  case mc1 => rcases hst with ⟨_, rfl, rfl⟩ | ⟨_, rfl, rfl⟩ <;> simp [adding, ind, hp]
  case mr1 => obtain ⟨rfl, rfl⟩ := hst; rw [hh]; simp [adding, ind, hp]
  case mc2 => rcases hst with ⟨_, rfl, ⟨_, _, rfl⟩ | ⟨_, rfl | rfl⟩⟩ | ⟨_, rfl, rfl⟩ <;> simp [adding, ind, hp]
  case ms1 => obtain ⟨_, rfl, rfl | rfl⟩ := hst <;> simp [adding, ind, hp]
  case mt2 => obtain ⟨rfl | rfl, rfl⟩ := hst <;> simp [adding, ind, hp]
  case mr2 =>
    obtain ⟨⟨_, rfl⟩ | ⟨_, rfl⟩, rfl⟩ := hst
    · simp [adding, ind, hp]
    · rw [hh]; simp [adding, ind, hp]
  case mr3 => obtain ⟨rfl, rfl⟩ := hst; rw [hh]; simp [adding, ind, hp]
  case ma => obtain ⟨rfl, rfl⟩ := hst; cases T.b <;> simp [adding, ind, hp]
  case dn1 => obtain ⟨rfl, rfl⟩ := hst; cases s'.done <;> simp [adding, ind, hp]
  case al => obtain ⟨z, rfl, rfl⟩ := hst; simp [adding, ind, hp]
  case lk2 => obtain ⟨⟨_, rfl⟩ | ⟨_, rfl⟩, rfl⟩ := hst <;> simp [adding, ind, hp]
  case dr => obtain ⟨rfl | rfl, rfl⟩ := hst <;> simp [adding, ind, hp]
  case u0 => obtain ⟨rfl, ⟨_, rfl⟩ | ⟨_, _, rfl⟩ | ⟨_, _, _, rfl⟩⟩ := hst <;> simp [adding, ind, hp]
  case uc => rcases hst with ⟨_, rfl, rfl⟩ | ⟨_, rfl, rfl⟩ <;> simp [adding, ind, hp]
  case ux => obtain ⟨⟨_, rfl⟩ | ⟨_, _, _, _, rfl⟩, rfl⟩ := hst <;> simp [adding, ind, hp]
  case ue => obtain ⟨hst, rfl⟩ := hst; cases hb : T.b <;> simp only [hb, if_true, if_false, Bool.false_eq_true] at hst <;> subst hst <;> simp [adding, ind, hp]
  case wf => obtain ⟨rfl, rfl⟩ := hst; by_cases e : T.i + W < n <;> simp [adding, ind, hp, e]
  case d1 => obtain ⟨rfl, rfl⟩ := hst; by_cases e : s.wv = 1 ∧ s.ww = 1 <;> simp [adding, ind, hp, e]
  all_goals (obtain ⟨rfl, rfl⟩ := hst; simp [adding, ind, hp])
end
end Go.Proofs.Ytnlopklbbajlbaa.Sw

namespace Go.Proofs.Ytnlopklbbajlbaa.Sw
open Go.ConcN (sumTo upd sumTo_upd upd_same upd_ne sumTo_congr le_sumTo sumTo_le)

def pre (T : Wk) : Bool :=
  match T.pc with
  | .d2 | .d3 | .d4 | .quit => false
  | _ => true
def mid2 (T : Wk) : Bool :=
  match T.pc with
  | .d2 | .d3 => true
  | _ => false
def mid4 (T : Wk) : Bool :=
  match T.pc with
  | .d4 => true
  | _ => false
/-- THE GROUP: p: not yet counted down; m2, m4: the one that must wake the starter. -/
def Grp (W : Nat) (t : St) (p m2 m4 : Nat) (s : Sh) : Prop :=
  match t.pc with
  | .sb | .so | .sd | .sa => t.j < W ∧ s.wv = p ∧ s.ww = 0 ∧ s.ws = 0 ∧ m2 = 0 ∧ m4 = 0
  | .sr | .se | .sg => t.j < W ∧ s.wv = p + 1 ∧ s.ww = 0 ∧ s.ws = 0 ∧ m2 = 0 ∧ m4 = 0
  | .kd | .w1 => t.j = W ∧ s.wv = p ∧ s.ww = 0 ∧ s.ws = 0 ∧ m2 = 0 ∧ m4 = 0
  | .w2 => t.j = W ∧ s.wv = p ∧ s.ww = 0 ∧ s.ws = 0 ∧ m2 = 0 ∧ m4 = 0 ∧ t.vs ≠ 0
  | .wx | .w3 => t.j = W ∧ ((0 < p ∧ s.wv = p ∧ s.ww = 1 ∧ s.ws = 0 ∧ m2 = 0 ∧ m4 = 0) ∨ (p = 0 ∧ s.wv = 0 ∧ ((m2 = 1 ∧ m4 = 0 ∧ s.ww = 1 ∧ s.ws = 0) ∨ (m2 = 0 ∧ m4 = 1 ∧ s.ww = 0 ∧ s.ws = 0) ∨ (m2 = 0 ∧ m4 = 0 ∧ s.ww = 0 ∧ s.ws = 1))))
  | .w4 | .ke | .aq | .fin => t.j = W ∧ p = 0 ∧ s.wv = 0 ∧ s.ww = 0 ∧ s.ws = 0 ∧ m2 = 0 ∧ m4 = 0

section
variable {th : Nat → Wk} {j k : Nat} {T X : Wk} {W n : Nat} {nm : Nat → ByteArray} {S0 : List ByteArray} {s s' : Sh} {B : Nat}

/-- ████ THE NAMES AND THE ANSWERS, through a worker's step. ████ -/
theorem Cont.stepS (h : Cont W n nm S0 th j s) (hO : LocO T s) (hW : 0 < W) (hinj : ∀ a b, a < n → b < n → nm a = nm b → a = b) (hk : k < j) (hT : th k = T) (hst : Step W n nm T s X s') (c' : Nat) : Cont W n nm S0 (upd th k { X with c := c' }) j s' := by
  have r := step_rest hst
  have hI := h.item k hk
  rw [hT] at hI
  have hC := h.loc k hk
  rw [hT] at hC
  have hsub : ∀ x, x ∈ S0 → x ∈ s.con := fun x hx => (h.mem x).2 (.inl hx)
  have hi0 : T.i % W = k := hI.1
  -- the item at hand is not done while it is looked up
  have hin : T.pc = .lk2 → (nm T.i ∈ s.con ↔ nm T.i ∈ S0) := fun hp => by
    refine ⟨fun hx => ?_, hsub _⟩
    rcases (h.mem _).1 hx with h0 | ⟨i, h1, h2, h3, h4⟩
    · exact h0
    · have hlt : T.i < n := hI.2.1 (by rw [hp]; rfl)
      have e := hinj i T.i h1 hlt h4
      subst e
      rw [hi0, hT] at h3
      rcases h3 with h3 | ⟨_, h3⟩
      · omega
      · simp [post, hp] at h3
  have hX := hC.own hO hst hin hsub
  have hIX := hI.own hst
  have itm : ∀ i, i < n → i % W < j → (upd th k { X with c := c' }) (i % W) = if i % W = k then { X with c := c' } else th (i % W) := fun i _ _ => rfl
  refine ⟨fun k' hk' => ?_, fun k' hk' => ?_, ?_, fun x => ?_, ?_, fun i hi => ?_⟩
  · by_cases e : k' = k
    · subst e; rw [upd_same]; exact hIX
    · rw [upd_ne _ _ e]; exact h.item k' hk'
  · by_cases e : k' = k
    · subst e; rw [upd_same]; exact hX
    · rw [upd_ne _ _ e]
      have hc := h.loc k' hk'
      have hi' := h.item k' hk'
      by_cases hp2 : T.pc = .in2
      · have hlt : T.i < n := hI.2.1 (by rw [hp2]; rfl)
        unfold LocC at hc ⊢
        cases hp : (th k').pc <;> simp only [hp] at hc ⊢ <;> first
          | exact hc
          | (rw [r.con, if_pos hp2]
             intro hm
             rcases List.mem_append.1 hm with hm | hm
             · exact hc hm
             · rw [List.mem_singleton] at hm
               have hlt' : (th k').i < n := hi'.2.1 (by rw [hp]; rfl)
               have := hinj _ _ hlt' hlt hm
               have h1 := hi'.1
               rw [this, hi0] at h1
               exact e h1.symm)
      · unfold LocC at hc ⊢
        rw [r.con, if_neg hp2]
        exact hc
  · rw [r.con]
    split
    · rename_i hp
      simp only [LocC, hp] at hC
      exact List.nodup_append.2 ⟨h.nodup, by simp, fun a ha b hb => by rw [List.mem_singleton] at hb; subst hb; exact fun e => hC (e ▸ ha)⟩
    · exact h.nodup
  · have hdid : ∀ i, i < n → i % W < j → (did ((upd th k { X with c := c' }) (i % W)) i ↔ did (th (i % W)) i ∨ (i = T.i ∧ (T.pc = .in2 ∨ (T.pc = .lk2 ∧ nm T.i ∈ s.con)))) := fun i h1 h2 => by
      by_cases e : i % W = k
      · rw [e, upd_same, hT]
        exact did_step hW hst hO (by rw [e, hi0])
      · rw [upd_ne _ _ e]
        exact ⟨.inl, fun x => x.elim id fun x => absurd (by rw [x.1, hi0]) e⟩
    constructor
    · intro hx
      have hx' : x ∈ s.con ∨ (T.pc = .in2 ∧ x = nm T.i) := by
        rw [r.con] at hx
        split at hx
        · rename_i hp
          rcases List.mem_append.1 hx with hx | hx
          · exact .inl hx
          · exact .inr ⟨hp, by simpa using hx⟩
        · exact .inl hx
      rcases hx' with hx' | ⟨hp, rfl⟩
      · rcases (h.mem x).1 hx' with h0 | ⟨i, h1, h2, h3, h4⟩
        · exact .inl h0
        · exact .inr ⟨i, h1, h2, (hdid i h1 h2).2 (.inl h3), h4⟩
      · have hlt : T.i < n := hI.2.1 (by rw [hp]; rfl)
        exact .inr ⟨T.i, hlt, by rw [hi0]; exact hk, (hdid T.i hlt (by rw [hi0]; exact hk)).2 (.inr ⟨rfl, .inl hp⟩), rfl⟩
    · intro hx
      have up : ∀ y, y ∈ s.con → y ∈ s'.con := fun y hy => by
        rw [r.con]; split
        · exact List.mem_append_left _ hy
        · exact hy
      rcases hx with h0 | ⟨i, h1, h2, h3, h4⟩
      · exact up _ (hsub _ h0)
      · rcases (hdid i h1 h2).1 h3 with h3 | ⟨h3, h5 | ⟨h5, h6⟩⟩
        · exact up _ ((h.mem x).2 (.inr ⟨i, h1, h2, h3, h4⟩))
        · rw [r.con, if_pos h5, ← h4, h3]; simp
        · exact up _ (by rw [← h4, h3]; exact h6)
  · have h1 := sumTo_upd th { X with c := c' } (fun T => ind (adding T = true)) hk
    have h2 := adding_step hst
    rw [hT] at h1
    have h3 := h.num
    have e1 : ind (adding { X with c := c' } = true) = ind (adding X = true) := rfl
    rw [e1] at h1
    rw [r.num, r.con]
    by_cases hp : T.pc = .in2
    · have hp2 : ¬ (T.pc = .ian ∨ T.pc = .iba) := by simp [hp]
      rw [if_pos hp, if_neg hp2]
      rw [ind_true hp, ind_false hp2] at h2
      simp only [List.length_append, List.length_cons, List.length_nil]
      omega
    · rw [if_neg hp]
      rw [ind_false hp] at h2
      split
      · rename_i hp2; rw [ind_true hp2] at h2; omega
      · rename_i hp2; rw [ind_false hp2] at h2; omega
  · have h0 := h.fr i hi
    by_cases hp : T.pc = .wf
    · rw [r.fr, if_pos hp]
      simp only [LocC, hp] at hC
      have hlt : T.i < n := hI.2.1 (by rw [hp]; rfl)
      have eX : X.i = T.i + W := by rw [r.i, if_pos hp]
      by_cases e : i = T.i
      · subst e
        rw [upd_same, hi0, upd_same]
        exact ⟨fun x => ⟨hk, by show T.i < X.i; rw [eX]; omega, hC.1 x⟩, fun x => hC.2 x.2.2⟩
      · rw [upd_ne _ _ e, h0]
        by_cases ek : i % W = k
        · rw [ek, upd_same, hT]
          show _ ↔ (_ ∧ i < X.i ∧ _)
          rw [eX]
          refine ⟨fun ⟨a, b, c⟩ => ⟨a, by omega, c⟩, fun ⟨a, b, c⟩ => ⟨a, ?_, c⟩⟩
          rcases Nat.lt_or_ge i T.i with h1 | h1
          · exact h1
          · exact (mod_gap (by rw [ek, hi0]) b (by omega)).elim
        · rw [upd_ne _ _ ek]
    · rw [r.fr, if_neg hp, h0]
      by_cases ek : i % W = k
      · rw [ek, upd_same, hT]
        show _ ↔ (_ ∧ i < X.i ∧ _)
        rw [r.i, if_neg hp]
      · rw [upd_ne _ _ ek]

theorem pre_head (T : Wk) : pre (head T) = true := by unfold head; split <;> rfl
theorem mid2_head (T : Wk) : mid2 (head T) = false := by unfold head; split <;> rfl
theorem mid4_head (T : Wk) : mid4 (head T) = false := by unfold head; split <;> rfl
theorem grp_step (hst : Step W n nm T s X s') :
    (T.pc = .d1 → pre T = true ∧ pre X = false ∧ mid4 X = false ∧ mid2 T = false ∧ mid4 T = false ∧ (mid2 X = true ↔ (s.wv = 1 ∧ s.ww = 1))) ∧
    (T.pc = .d2 → pre X = false ∧ mid2 X = true ∧ mid4 X = false) ∧ (T.pc = .d3 → pre X = false ∧ mid2 X = false ∧ mid4 X = true) ∧ (T.pc = .d4 → pre X = false ∧ mid2 X = false ∧ mid4 X = false) ∧
    (T.pc ≠ .d1 → T.pc ≠ .d2 → T.pc ≠ .d3 → T.pc ≠ .d4 → pre X = pre T ∧ mid2 X = mid2 T ∧ mid4 X = mid4 T) := by
  cases hp : T.pc <;> simp only [Step, hp] at hst
  case bx => obtain ⟨⟨z, rfl⟩, rfl⟩ := hst; simp [pre, mid2, mid4, hp]
  case m0 => rcases hst with ⟨_, rfl, rfl⟩ | ⟨_, rfl, rfl⟩ <;> simp [pre, mid2, mid4, hp]
  case mr0 => obtain ⟨rfl, rfl⟩ := hst; simp only [pre_head, mid2_head, mid4_head]; simp [pre, mid2, mid4, hp]
  case msq => obtain ⟨rfl, rfl | ⟨_, _, _, rfl⟩ | ⟨_, rfl⟩⟩ := hst <;> simp [pre, mid2, mid4, hp]
  case mc1 => rcases hst with ⟨_, rfl, rfl⟩ | ⟨_, rfl, rfl⟩ <;> simp [pre, mid2, mid4, hp]
  case mr1 => obtain ⟨rfl, rfl⟩ := hst; simp only [pre_head, mid2_head, mid4_head]; simp [pre, mid2, mid4, hp]
  case mc2 => rcases hst with ⟨_, rfl, ⟨_, _, rfl⟩ | ⟨_, rfl | rfl⟩⟩ | ⟨_, rfl, rfl⟩ <;> simp [pre, mid2, mid4, hp]
  case ms1 => obtain ⟨_, rfl, rfl | rfl⟩ := hst <;> simp [pre, mid2, mid4, hp]
  case mt2 => obtain ⟨rfl | rfl, rfl⟩ := hst <;> simp [pre, mid2, mid4, hp]
  case mr2 =>
    obtain ⟨⟨_, rfl⟩ | ⟨_, rfl⟩, rfl⟩ := hst
    · simp [pre, mid2, mid4, hp]
    · simp only [pre_head, mid2_head, mid4_head]; simp [pre, mid2, mid4, hp]
  case mr3 => obtain ⟨rfl, rfl⟩ := hst; simp only [pre_head, mid2_head, mid4_head]; simp [pre, mid2, mid4, hp]
  case ma => obtain ⟨rfl, rfl⟩ := hst; cases T.b <;> simp [pre, mid2, mid4, hp]
  case dn1 => obtain ⟨rfl, rfl⟩ := hst; cases s'.done <;> simp [pre, mid2, mid4, hp]
  case al => obtain ⟨z, rfl, rfl⟩ := hst; simp [pre, mid2, mid4, hp]
  case lk2 => obtain ⟨⟨_, rfl⟩ | ⟨_, rfl⟩, rfl⟩ := hst <;> simp [pre, mid2, mid4, hp]
  case dr => obtain ⟨rfl | rfl, rfl⟩ := hst <;> simp [pre, mid2, mid4, hp]
  case u0 => obtain ⟨rfl, ⟨_, rfl⟩ | ⟨_, _, rfl⟩ | ⟨_, _, _, rfl⟩⟩ := hst <;> simp [pre, mid2, mid4, hp]
  case uc => rcases hst with ⟨_, rfl, rfl⟩ | ⟨_, rfl, rfl⟩ <;> simp [pre, mid2, mid4, hp]
  case ux => obtain ⟨⟨_, rfl⟩ | ⟨_, _, _, _, rfl⟩, rfl⟩ := hst <;> simp [pre, mid2, mid4, hp]
  case ue => obtain ⟨hst, rfl⟩ := hst; cases hb : T.b <;> simp only [hb, if_true, if_false, Bool.false_eq_true] at hst <;> subst hst <;> simp [pre, mid2, mid4, hp]
  case wf => obtain ⟨rfl, rfl⟩ := hst; by_cases e : T.i + W < n <;> simp [pre, mid2, mid4, hp, e]
  case d1 => obtain ⟨rfl, rfl⟩ := hst; by_cases e : s.wv = 1 ∧ s.ww = 1 <;> simp [pre, mid2, mid4, hp, e]
  all_goals (obtain ⟨rfl, rfl⟩ := hst; simp [pre, mid2, mid4, hp])
end
end Go.Proofs.Ytnlopklbbajlbaa.Sw
