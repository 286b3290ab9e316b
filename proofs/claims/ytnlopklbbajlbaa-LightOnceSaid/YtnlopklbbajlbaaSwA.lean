/- LightOnce: one mutex as an abstract thing: its word, its semaphore, and how many goroutines stand in which role; whatever step a goroutine takes keeps the balance. -/
import Derived.Conc.CrowdBase
namespace Go.Proofs.Ytnlopklbbajlbaa.Sw

/-- The mutex's word: locked, woken, starving, how many wait. -/
structure MuW where
  l : Bool
  k : Bool
  s : Bool
  n : Nat
/-- The word and the semaphore. -/
structure Mx where
  w : MuW
  sem : Nat
def MuW.nil : MuW := ⟨false, false, false, 0⟩
theorem MuW.ext {a b : MuW} (h1 : a.l = b.l) (h2 : a.k = b.k) (h3 : a.s = b.s) (h4 : a.n = b.n) : a = b := by
  cases a; cases b; simp_all

/- Roles: 0 none · 1 holds the lock · 2 is awake in lockSlow's loop, the flag 'woken' being its own · 3 has taken a token, not yet looked · 4 is about to take the lock by hand-off · 5 waits · 6 is about to give a token · 7 is in unlockSlow's loop. -/
structure MxOK (x : Mx) (c : Nat → Nat) : Prop where
  l : x.w.l.toNat = c 1
  n0 : x.w.s = false → x.w.k.toNat = c 2 + x.sem + c 6 + c 3 ∧ c 4 = 0 ∧ x.w.n + x.sem + c 6 = c 5 ∧ (0 < x.w.n → x.w.l = false → x.w.k = false → 0 < c 7)
  s1 : x.w.s = true → x.w.k = false ∧ c 2 = 0 ∧ c 1 + x.sem + c 6 + c 3 + c 4 = 1 ∧ x.w.n = c 5 + c 3 + c 4 ∧ 0 < x.w.n

/-- What a goroutine's step may do to the mutex and to its own role. -/
inductive MS : Mx → Nat → Mx → Nat → Prop
  | same (x r) : MS x r x r
  | take {x} (hl : x.w.l = false) (hs : x.w.s = false) : MS x 0 ⟨{ x.w with l := true }, x.sem⟩ 1
  | takeAw {x} (hl : x.w.l = false) (hs : x.w.s = false) : MS x 2 ⟨{ x.w with l := true, k := false }, x.sem⟩ 1
  | wake {x} (hl : x.w.l = true) (hk : x.w.k = false) (hs : x.w.s = false) : MS x 0 ⟨{ x.w with k := true }, x.sem⟩ 2
  | queue {x} (h : x.w.l = true ∨ x.w.s = true) : MS x 0 ⟨{ x.w with n := x.w.n + 1 }, x.sem⟩ 5
  | queueAw {x sv} (hl : x.w.l = true) (hs : x.w.s = false) : MS x 2 ⟨{ x.w with n := x.w.n + 1, k := false, s := sv }, x.sem⟩ 5
  | token {x} (h : 0 < x.sem) : MS x 5 ⟨x.w, x.sem - 1⟩ 3
  | tkN {x} (hs : x.w.s = false) : MS x 3 x 2
  | tkH {x} (hs : x.w.s = true) : MS x 3 x 4
  | add {x s'} (hs : x.w.s = true) (hn : s' = true → 2 ≤ x.w.n) : MS x 4 ⟨{ x.w with l := true, n := x.w.n - 1, s := s' }, x.sem⟩ 1
  | unlS {x} (hs : x.w.s = true) : MS x 1 ⟨{ x.w with l := false }, x.sem⟩ 6
  | unlN {x} (hs : x.w.s = false) (h : x.w.n = 0 ∨ x.w.k = true) : MS x 1 ⟨{ x.w with l := false }, x.sem⟩ 0
  | unlW {x} (hs : x.w.s = false) : MS x 1 ⟨{ x.w with l := false }, x.sem⟩ 7
  | unc {x} (hl : x.w.l = false) (hk : x.w.k = false) (hs : x.w.s = false) (hn : 0 < x.w.n) : MS x 7 ⟨{ x.w with n := x.w.n - 1, k := true }, x.sem⟩ 6
  | unr {x} (h : x.w.l = true ∨ x.w.k = true ∨ x.w.s = true ∨ x.w.n = 0) : MS x 7 x 0
  | rel {x} : MS x 6 ⟨x.w, x.sem + 1⟩ 0

def ind (p : Prop) [Decidable p] : Nat := if p then 1 else 0
/-- THE BALANCE IS KEPT. -/
theorem MxOK.step {x x' : Mx} {r r' : Nat} {c c' : Nat → Nat} (h : MxOK x c) (m : MS x r x' r') (hc : ∀ q, q ≠ 0 → c' q + ind (r = q) = c q + ind (r' = q)) : MxOK x' c' := by
  have h1 := hc 1 (by decide)
  have h2 := hc 2 (by decide)
  have h3 := hc 3 (by decide)
  have h4 := hc 4 (by decide)
  have h5 := hc 5 (by decide)
  have h6 := hc 6 (by decide)
  have h7 := hc 7 (by decide)
  obtain ⟨a, b, d⟩ := h
  clear hc
  cases m
  case same =>
    exact ⟨by omega, fun hs => by obtain ⟨p, q, u, v⟩ := b hs; exact ⟨by omega, by omega, by omega, fun x1 x2 x3 => by have := v x1 x2 x3; omega⟩, fun hs => by obtain ⟨p, q, u, v, z⟩ := d hs; exact ⟨p, by omega, by omega, by omega, z⟩⟩
  all_goals
    obtain ⟨⟨l, k, s, n⟩, sem⟩ := x
    simp [ind] at h1 h2 h3 h4 h5 h6 h7
    simp only at *
    generalize c 1 = c1 at *
    generalize c 2 = c2 at *
    generalize c 3 = c3 at *
    generalize c 4 = c4 at *
    generalize c 5 = c5 at *
    generalize c 6 = c6 at *
    generalize c 7 = c7 at *
    constructor <;> simp only <;> (try intro hs9) <;> (cases l <;> cases k <;> cases s <;> simp at * <;> first | omega | (simp_all; omega))
end Go.Proofs.Ytnlopklbbajlbaa.Sw

namespace Go.Proofs.Ytnlopklbbajlbaa.Sw
open Go.ConcN (sumTo upd sumTo_upd upd_same upd_ne sumTo_congr le_sumTo)

/-- What is shared: the once's mutex, the lock, whether the once is done, the map (0: none, 1: made, 2: laid; its block; its names), the counter, the group's two counts and its semaphore, the answers. -/
structure Sh where
  mo : Mx
  ml : Mx
  done : Bool
  st : Nat
  mp : Nat
  con : List ByteArray
  num : Nat
  wv : Nat
  ww : Nat
  ws : Nat
  fr : Nat → Bool
def Sh.mx (s : Sh) (b : Bool) : Mx := if b then s.mo else s.ml
def Sh.put (s : Sh) (b : Bool) (x : Mx) : Sh := if b then { s with mo := x } else { s with ml := x }

/-- Where a worker stands: at the step that its name tells. -/
inductive Pc where
  | bx | dn0 | md | m0 | mr0 | msq | mc1 | mr1 | mc2 | mt1 | ms1 | mt2 | mr2 | ma1 | mr3 | me | ma
  | dn1 | al | sl | dst | lk1 | lk2 | dr | ia1 | ian | iba | ibr | in2
  | ur | ud | u0 | uc | ux | us | ue | wf | wr | wk | d1 | d2 | d3 | d4 | quit
def Pc.num : Pc → Nat
  | .bx => 0
  | .dn0 => 1
  | .md => 2
  | .m0 => 3
  | .mr0 => 4
  | .msq => 5
  | .mc1 => 6
  | .mr1 => 7
  | .mc2 => 8
  | .mt1 => 9
  | .ms1 => 10
  | .mt2 => 11
  | .mr2 => 12
  | .ma1 => 13
  | .mr3 => 14
  | .me => 15
  | .ma => 16
  | .dn1 => 17
  | .al => 18
  | .sl => 19
  | .dst => 20
  | .lk1 => 21
  | .lk2 => 22
  | .dr => 23
  | .ia1 => 24
  | .ian => 25
  | .iba => 26
  | .ibr => 27
  | .in2 => 28
  | .ur => 29
  | .ud => 30
  | .u0 => 31
  | .uc => 32
  | .ux => 33
  | .us => 34
  | .ue => 35
  | .wf => 36
  | .wr => 37
  | .wk => 38
  | .d1 => 39
  | .d2 => 40
  | .d3 => 41
  | .d4 => 42
  | .quit => 43
def Pc.ofNum : Nat → Pc
  | 0 => .bx
  | 1 => .dn0
  | 2 => .md
  | 3 => .m0
  | 4 => .mr0
  | 5 => .msq
  | 6 => .mc1
  | 7 => .mr1
  | 8 => .mc2
  | 9 => .mt1
  | 10 => .ms1
  | 11 => .mt2
  | 12 => .mr2
  | 13 => .ma1
  | 14 => .mr3
  | 15 => .me
  | 16 => .ma
  | 17 => .dn1
  | 18 => .al
  | 19 => .sl
  | 20 => .dst
  | 21 => .lk1
  | 22 => .lk2
  | 23 => .dr
  | 24 => .ia1
  | 25 => .ian
  | 26 => .iba
  | 27 => .ibr
  | 28 => .in2
  | 29 => .ur
  | 30 => .ud
  | 31 => .u0
  | 32 => .uc
  | 33 => .ux
  | 34 => .us
  | 35 => .ue
  | 36 => .wf
  | 37 => .wr
  | 38 => .wk
  | 39 => .d1
  | 40 => .d2
  | 41 => .d3
  | 42 => .d4
  | _ => .quit
theorem Pc.of_num (a : Pc) : Pc.ofNum a.num = a := by cases a <;> rfl
instance : DecidableEq Pc := fun a b => if h : a.num = b.num then .isTrue ((Pc.of_num a).symm.trans ((congrArg Pc.ofNum h).trans (Pc.of_num b))) else .isFalse fun e => h (congrArg Pc.num e)
/-- A worker. c: so many quiet steps (reads of what nobody writes; a draw) come ahead of its step. b: which mutex (true: the once's). i: its item. bx: its own block. -/
structure Wk where
  pc : Pc
  c : Nat
  b : Bool
  i : Nat
  old : MuW
  aw : Bool
  sv : Bool
  it : Nat
  r : Bool
  bx : Nat
  m : Nat

def nw (T : Wk) : MuW := ⟨T.old.l || !T.old.s, T.old.k && !T.aw, T.old.s || (T.sv && T.old.l), if T.old.l || T.old.s then T.old.n + 1 else T.old.n⟩
def head (T : Wk) : Wk := if T.old.l && !T.old.s then { T with pc := .msq } else { T with pc := .mc2 }

/-- A role on the mutex at hand. -/
def role (T : Wk) : Nat :=
  match T.pc with
  | .me | .ma | .dn1 | .al | .sl | .dst | .lk1 | .lk2 | .dr | .ia1 | .ian | .iba | .ibr | .in2 | .ur | .ud | .u0 => 1
  | .msq | .mc1 | .mr1 | .mc2 | .mr3 => if T.aw then 2 else 0
  | .mt2 | .mr2 => 3
  | .ma1 => 4
  | .mt1 | .ms1 => 5
  | .us => 6
  | .uc | .ux => 7
  | _ => 0
/-- In lockSlow's loop, or behind the last word to the group: no quiet step stands there. -/
def bare (p : Pc) : Bool :=
  match p with
  | .mr0 | .msq | .mc1 | .mr1 | .mc2 | .mr3 | .ux | .uc | .wk | .d1 | .d2 | .d3 | .d4 | .quit => true
  | _ => false

section
variable (W n : Nat) (nm : Nat → ByteArray)
/-- A WORKER's STEP. -/
def Step (T : Wk) (s : Sh) (X : Wk) (s' : Sh) : Prop :=
  match T.pc with
  | .bx => (∃ z, X = { T with pc := .dn0, bx := z }) ∧ s' = s
  | .dn0 => X = { T with pc := .md, b := !s.done, aw := false, sv := false } ∧ s' = s
  | .md => X = { T with pc := .m0 } ∧ s' = s
  | .m0 => ((s.mx T.b).w = MuW.nil ∧ X = { T with pc := .me } ∧ s' = s.put T.b ⟨⟨true, false, false, 0⟩, (s.mx T.b).sem⟩) ∨ ((s.mx T.b).w ≠ MuW.nil ∧ X = { T with pc := .mr0 } ∧ s' = s)
  | .mr0 => X = head { T with old := (s.mx T.b).w, aw := false, sv := false, it := 0 } ∧ s' = s
  | .msq => s' = s ∧ (X = { T with pc := .mc2 } ∨ (T.it < 4 ∧ T.aw = false ∧ T.old.k = false ∧ X = { T with pc := .mc1 }) ∨ (T.it < 4 ∧ X = { T with pc := .mr1 }))
  | .mc1 => ((s.mx T.b).w = T.old ∧ X = { T with pc := .mr1, aw := true } ∧ s' = s.put T.b ⟨{ (s.mx T.b).w with k := true }, (s.mx T.b).sem⟩) ∨ ((s.mx T.b).w ≠ T.old ∧ X = { T with pc := .mr1 } ∧ s' = s)
  | .mr1 => X = head { T with old := (s.mx T.b).w, it := T.it + 1 } ∧ s' = s
  | .mc2 => ((s.mx T.b).w = T.old ∧ s' = s.put T.b ⟨nw T, (s.mx T.b).sem⟩ ∧ ((T.old.l = false ∧ T.old.s = false ∧ X = { T with pc := .me }) ∨ ((T.old.l = true ∨ T.old.s = true) ∧ (X = { T with pc := .mt1 } ∨ X = { T with pc := .ms1 })))) ∨ ((s.mx T.b).w ≠ T.old ∧ X = { T with pc := .mr3 } ∧ s' = s)
  | .mt1 => X = { T with pc := .ms1 } ∧ s' = s
  | .ms1 => 0 < (s.mx T.b).sem ∧ s' = s.put T.b ⟨(s.mx T.b).w, (s.mx T.b).sem - 1⟩ ∧ (X = { T with pc := .mt2 } ∨ X = { T with pc := .mr2 })
  | .mt2 => (X = { T with pc := .mr2 } ∨ X = { T with pc := .mr2, sv := true }) ∧ s' = s
  | .mr2 => (((s.mx T.b).w.s = true ∧ X = { T with pc := .ma1, old := (s.mx T.b).w }) ∨ ((s.mx T.b).w.s = false ∧ X = head { T with old := (s.mx T.b).w, aw := true, it := 0 })) ∧ s' = s
  | .ma1 => X = { T with pc := .me } ∧ s' = s.put T.b ⟨{ (s.mx T.b).w with l := true, n := (s.mx T.b).w.n - 1, s := T.sv && !(T.old.n == 1) }, (s.mx T.b).sem⟩
  | .mr3 => X = head { T with old := (s.mx T.b).w } ∧ s' = s
  | .me => X = { T with pc := .ma } ∧ s' = s
  | .ma => X = { T with pc := if T.b then .dn1 else .lk1 } ∧ s' = s
  | .dn1 => X = { T with pc := if s.done then .ur else .al } ∧ s' = s
  | .al => ∃ z, X = { T with pc := .sl, m := z } ∧ s' = { s with st := 1, mp := z }
  | .sl => X = { T with pc := .dst } ∧ s' = { s with st := 2 }
  | .dst => X = { T with pc := .ur } ∧ s' = { s with done := true }
  | .lk1 => X = { T with pc := .lk2 } ∧ s' = s
  | .lk2 => ((nm T.i ∈ s.con ∧ X = { T with pc := .ur, r := false }) ∨ (nm T.i ∉ s.con ∧ X = { T with pc := .dr })) ∧ s' = s
  | .dr => (X = { T with pc := .ia1 } ∨ X = { T with pc := .iba }) ∧ s' = s
  | .ia1 => X = { T with pc := .ian } ∧ s' = s
  | .ian => X = { T with pc := .in2 } ∧ s' = { s with num := s.num + 1 }
  | .iba => X = { T with pc := .ibr } ∧ s' = { s with num := s.num + 1 }
  | .ibr => X = { T with pc := .in2 } ∧ s' = s
  | .in2 => X = { T with pc := .ur, r := true } ∧ s' = { s with con := s.con ++ [nm T.i] }
  | .ur => X = { T with pc := .ud } ∧ s' = s
  | .ud => X = { T with pc := .u0 } ∧ s' = s
  | .u0 => s' = s.put T.b ⟨{ (s.mx T.b).w with l := false }, (s.mx T.b).sem⟩ ∧
      (((s.mx T.b).w.s = true ∧ X = { T with pc := .us }) ∨ ((s.mx T.b).w.s = false ∧ ((s.mx T.b).w.n = 0 ∨ (s.mx T.b).w.k = true) ∧ X = { T with pc := .ue }) ∨
       ((s.mx T.b).w.s = false ∧ 0 < (s.mx T.b).w.n ∧ (s.mx T.b).w.k = false ∧ X = { T with pc := .uc, old := { (s.mx T.b).w with l := false } }))
  | .uc => ((s.mx T.b).w = T.old ∧ X = { T with pc := .us } ∧ s' = s.put T.b ⟨{ (s.mx T.b).w with n := (s.mx T.b).w.n - 1, k := true }, (s.mx T.b).sem⟩) ∨ ((s.mx T.b).w ≠ T.old ∧ X = { T with pc := .ux } ∧ s' = s)
  | .ux => (((((s.mx T.b).w.l = true ∨ (s.mx T.b).w.k = true ∨ (s.mx T.b).w.s = true ∨ (s.mx T.b).w.n = 0) ∧ X = { T with pc := .ue })) ∨
      ((s.mx T.b).w.l = false ∧ (s.mx T.b).w.k = false ∧ (s.mx T.b).w.s = false ∧ 0 < (s.mx T.b).w.n ∧ X = { T with pc := .uc, old := (s.mx T.b).w })) ∧ s' = s
  | .us => X = { T with pc := .ue } ∧ s' = s.put T.b ⟨(s.mx T.b).w, (s.mx T.b).sem + 1⟩
  | .ue => (if T.b then X = { T with pc := .md, b := false, aw := false, sv := false } else X = { T with pc := .wf }) ∧ s' = s
  | .wf => X = { T with pc := if T.i + W < n then .bx else .wr, i := T.i + W } ∧ s' = { s with fr := upd s.fr T.i T.r }
  | .wr => X = { T with pc := .wk } ∧ s' = s
  | .wk => X = { T with pc := .d1 } ∧ s' = s
  | .d1 => X = { T with pc := if s.wv = 1 ∧ s.ww = 1 then .d2 else .quit } ∧ s' = { s with wv := s.wv - 1 }
  | .d2 => X = { T with pc := .d3 } ∧ s' = s
  | .d3 => X = { T with pc := .d4 } ∧ s' = { s with ww := 0 }
  | .d4 => X = { T with pc := .quit } ∧ s' = { s with ws := s.ws + 1 }
  | .quit => False
/-- A worker's step, with its quiet ones. -/
def Mv (T : Wk) (s : Sh) (T' : Wk) (s' : Sh) : Prop :=
  (0 < T.c ∧ s' = s ∧ ∃ c', c' < T.c ∧ T' = { T with c := c' }) ∨
  (T.c = 0 ∧ ∃ X c', Step W n nm T s X s' ∧ T' = { X with c := c' } ∧ c' ≤ (if bare X.pc then 0 else 16))
end

/-- Where the starter stands. -/
inductive Sc where
  | sb | so | sd | sa | sr | se | sg | kd | w1 | w2 | wx | w3 | w4 | ke | aq | fin
def Sc.num : Sc → Nat
  | .sb => 0
  | .so => 1
  | .sd => 2
  | .sa => 3
  | .sr => 4
  | .se => 5
  | .sg => 6
  | .kd => 7
  | .w1 => 8
  | .w2 => 9
  | .wx => 10
  | .w3 => 11
  | .w4 => 12
  | .ke => 13
  | .aq => 14
  | .fin => 15
def Sc.ofNum : Nat → Sc
  | 0 => .sb
  | 1 => .so
  | 2 => .sd
  | 3 => .sa
  | 4 => .sr
  | 5 => .se
  | 6 => .sg
  | 7 => .kd
  | 8 => .w1
  | 9 => .w2
  | 10 => .wx
  | 11 => .w3
  | 12 => .w4
  | 13 => .ke
  | 14 => .aq
  | _ => .fin
theorem Sc.of_num (a : Sc) : Sc.ofNum a.num = a := by cases a <;> rfl
instance : DecidableEq Sc := fun a b => if h : a.num = b.num then .isTrue ((Sc.of_num a).symm.trans ((congrArg Sc.ofNum h).trans (Sc.of_num b))) else .isFalse fun e => h (congrArg Sc.num e)
structure St where
  pc : Sc
  j : Nat
  vs : Nat
  bx : Nat
/-- THE STARTER's STEP ('sg': it starts worker number j). -/
def StepS (W : Nat) (T : St) (s : Sh) (X : St) (s' : Sh) : Prop :=
  match T.pc with
  | .sb => (∃ z, X = { T with pc := .so, bx := z }) ∧ s' = s
  | .so => X = { T with pc := .sd } ∧ s' = s
  | .sd => X = { T with pc := .sa } ∧ s' = s
  | .sa => X = { T with pc := if s.wv = 0 then .sr else .se } ∧ s' = { s with wv := s.wv + 1 }
  | .sr => X = { T with pc := .se } ∧ s' = s
  | .se => X = { T with pc := .sg } ∧ s' = s
  | .sg => X = { T with pc := if T.j + 1 < W then .sb else .kd, j := T.j + 1 } ∧ s' = s
  | .kd => X = { T with pc := .w1 } ∧ s' = s
  | .w1 => ((s.wv = 0 ∧ X = { T with pc := .ke }) ∨ (s.wv ≠ 0 ∧ X = { T with pc := .w2, vs := s.wv })) ∧ s' = s
  | .w2 => (s.wv = T.vs ∧ X = { T with pc := .wx } ∧ s' = { s with ww := 1 }) ∨ (s.wv ≠ T.vs ∧ X = { T with pc := .w1 } ∧ s' = s)
  | .wx => X = { T with pc := .w3 } ∧ s' = s
  | .w3 => 0 < s.ws ∧ X = { T with pc := .w4 } ∧ s' = { s with ws := s.ws - 1 }
  | .w4 => X = { T with pc := .ke } ∧ s' = s
  | .ke => X = { T with pc := .aq } ∧ s' = s
  | .aq => X = { T with pc := .fin } ∧ s' = s
  | .fin => False
end Go.Proofs.Ytnlopklbbajlbaa.Sw
