/- LightOnce: the once: its closure, doSlow, Do. -/
import Derived.Test.YtnlopklbbajlbaaSwKW
set_option linter.unusedVariables false
set_option linter.unusedSimpArgs false
set_option maxRecDepth 100000
namespace Go.Proofs.Ytnlopklbbajlbaa.Sw
open Go Go.Conc Go.ConcN Go.RowKit
open Go.ConcR (DC0 stA smA)
noncomputable def body28 : Code := Try.f28.body.getD .skip
noncomputable def body43 : Code := Try.f43.body.getD .skip
noncomputable def body27 : Code := Try.f27.body.getD .skip
theorem loud28 : (Try.prog.funcs[(Go.Conc.base 28).fn]?).any (·.norace) = false := by kernel_rfl

section
variable {c : TC} {w : World} {s : Sh}
/-- A new block does not stand in the way. -/
theorem ShAt.alloc (h : ShAt 46 55 4 c w s) (o : Obj) : ShAt 46 55 4 c (w.alloc o) s := by
  have key : ∀ b, b < w.heap.size → (w.alloc o).heap[b]? = w.heap[b]? := fun b hb => by
    show (w.heap.push o)[b]? = _
    rw [Array.getElem?_push, if_neg (by omega)]
  have lt : ∀ b, b < c.Low → (w.alloc o).heap[b]? = w.heap[b]? := fun b hb => key b (Nat.lt_of_lt_of_le hb h.low)
  have hsz : (w.alloc o).heap.size = w.heap.size + 1 := by show (w.heap.push o).size = _; simp
  refine ⟨?_, ?_, ?_, fun x => ?_, by have := h.low; omega, h.mo, h.z⟩
  · rw [lt _ c.la]; exact h.a
  · rw [lt _ c.lw]; exact h.g
  · rw [lt _ c.lf]; exact h.f
  · obtain ⟨h1, h2⟩ := h.m x
    exact ⟨by omega, by rw [key _ h1]; exact h2⟩
theorem ShAt.al (h : ShAt 46 55 4 c w s) (h0 : s.st = 0) : ShAt 46 55 4 c (w.alloc (.map #[] 0)) { s with st := 1, mp := w.heap.size } := by
  have h' := h.alloc (.map #[] 0)
  have hz := h.z h0
  refine ⟨?_, h'.g, h'.f, fun _ => ⟨?_, #[], 0, ?_, ?_⟩, h'.low, fun _ => .inr ⟨hz.2, h.low⟩, fun e => by cases e⟩
  · have := h'.a
    simp only [seV, h0] at this
    simpa [seV] using this
  · show w.heap.size < (w.heap.push _).size
    simp
  · show (w.heap.push _)[w.heap.size]? = _
    simp
  · simp [hz.1]
theorem Eff.alloc (s : Sh) (o : Option Nat) (w : World) (x : Obj) : Eff c s o w (w.alloc x) := by
  refine ⟨rfl, rfl, .refl _, ?_, fun b hb _ _ _ _ _ => ?_⟩
  · show w.heap.size ≤ (w.heap.push x).size
    simp
  · show (w.heap.push x)[b]? = _
    rw [Array.getElem?_push, if_neg (by omega)]
theorem alloc_size (w : World) (o : Obj) : (w.alloc o).heap.size = w.heap.size + 1 := by show (w.heap.push o).size = _; simp
end

section
variable {c : TC} {q : AP} {bx : Nat} {p : World → Prop} {i m : Nat} {r : Bool} {cs : List Frame} {b₁ : Frame} {a₁ : Act} {ops₁ : Array Oper} {i₁ : Nat} {rest₁ : List Nat} {k₁ : List Item}
/-- Its own block holds the alerts' address. -/
def OwnA (c : TC) (bx : Nat) (p : World → Prop) : Prop := ∀ w, p w → w.cell? ⟨bx, 0, none⟩ = some (.pointer (some ⟨c.A, 0, none⟩))
set_option maxHeartbeats 4000000 in
/-- ████ THE MAP IS MADE AND LAID. ████ -/
theorem f28L (K : KN c bx p) (hA : OwnA c bx p) (k : Nat) (old : MuW) (aw sv : Bool) (it : Nat)
    (next : ∀ m, WU c q bx p k ⟨.dst, 1, true, i, old, aw, sv, it, r, bx, m⟩ (G (b₁.at (a₁.put ((ops₁[i₁]?).bind (·.dst)) (.tuple #[])) (.inRegion ops₁ rest₁ :: k₁)) cs)) :
    WU c q bx p k ⟨.al, 1, true, i, old, aw, sv, it, r, bx, m⟩ (G ((Go.Conc.base 28).at ⟨#[.pointer (some ⟨bx, 0, none⟩), undef, undef, undef, undef], []⟩ [.code body28]) (b₁.at a₁ (.inRegion ops₁ (i₁ :: rest₁) :: k₁) :: cs)) := by
  have hp := K.st
  refine ⟨rfl, fun j hj => ?_⟩
  simp only [body28, Try.f28, Option.getD_some]
  (refine GU.ctl hp rfl (fun _ => stepG_region) ?_; simp only [List.size_toArray, List.length_cons, List.length_nil, Nat.reduceAdd, Nat.zero_add, List.range, List.range.loop])
  refine stopLd K rfl 24 (by simp) rfl (by simp) rfl rfl (by k_ne) rfl rfl loud28 hA (.inr rfl) ⟨rfl, fun j2 hj2 => ?_⟩
  walk_nrm
  -- STOP al
  refine stopW_al K rfl rfl rfl rfl (fun w s hw hs hf => ?_)
  have h0 : s.st = 0 := by have := hf.locO; simp only [LocO] at this; exact this.2.2
  refine ⟨_, w.alloc (.map #[] 0), stepV0 rfl rfl (by k_ne) (mm_run rfl), hs.al h0, Eff.alloc _ _ _ _, alloc_size _ _, ?_⟩
  generalize w.heap.size = z
  clear hw hs hf h0
  refine ⟨rfl, fun j3 hj3 => ?_⟩
  walk_nrm
  ((iterate 2 (refine GU.value hp _ rfl rfl (by k_ne) (fun _ => by go_simp <;> rfl) (fun _ => by simp [go_sem, *]) ?_; walk_nrm)))
  -- STOP sl
  refine stopW K rfl rfl rfl (by simp) (by simp) (fun w s hw hs hf => ?_)
  obtain ⟨l1, l2, l3, l4⟩ : (true = true ∧ s.done = false ∧ s.st = 1 ∧ s.mp = z) := hf.locO
  subst l4
  refine ⟨⟨.dst, 0, true, i, old, aw, sv, it, r, bx, s.mp⟩, 1, { s with st := 2 }, _, _, _, by simp [Step], by simp [bare], stepN1 rfl rfl (by k_ne) loud28 (st_map (ad := seA c) (v := some s.mp) rfl rfl rfl hs.cSe (hs.thA _)), hs.setSe (by omega), Eff.set _ _ _ _ _ (.inl rfl), (aside_setCell _ _ _).size, by simp [EvW], by simp, ?_⟩
  generalize s.mp = z
  clear hw hs hf l2 l3
  refine ⟨rfl, fun j4 hj4 => ?_⟩
  walk_nrm
  (refine GU.ctl hp rfl (fun _ => stepG_region_end) ?_; refine GU.ctl hp rfl (fun _ => stepG_end) ?_)
  (refine GU.leave0 hp rfl rfl Try.func28 rfl ?_; walk_nrm)
  exact (next z).2 j4 (by omega)
set_option maxHeartbeats 4000000 in
/-- ████ THE DEFERRED Store. ████ -/
theorem storeD {cF : Frame} (K : KN c bx p) (hcF : cF.mode = .returning) (k : Nat) (old : MuW) (aw sv : Bool) (it : Nat)
    (next : WU c q bx p k ⟨.ur, 0, true, i, old, aw, sv, it, r, bx, m⟩ (G cF cs)) :
    WU c q bx p k ⟨.dst, 1, true, i, old, aw, sv, it, r, bx, m⟩ (G ((baseD 49).at ⟨#[.pointer (some ⟨c.A, 0, none⟩), .bool true, undef, undef, undef, undef, undef, undef, undef, undef], []⟩ [.code body49]) (cF :: cs)) := by
  refine ⟨rfl, fun j hj => ?_⟩
  have h := r49 K hcF j old aw sv it (next.mono (Nat.le_of_lt hj))
  refine stopDraw (ops := ops49) K rfl dag49 (by simp) (by simp) (fun _ => 0) (fun l ho hl => ⟨by simp, ?_⟩)
  exact h l false false false false false ho undef undef undef undef undef (by simp) (by simp) (by simp) (by simp) (by simp) (by simp) (by simp) (by simp)
/-- Out of doSlow. -/
theorem slowTail (K : KN c bx p) (hB : q.B < 60) (k : Nat) (next : ∀ old it m, WU c q bx p k ⟨.md, 1, false, i, old, false, false, it, r, bx, m⟩ (G (b₁.at (a₁.put ((ops₁[i₁]?).bind (·.dst)) (.tuple #[])) (.inRegion ops₁ rest₁ :: k₁)) cs))
    (old : MuW) (aw sv : Bool) (it : Nat) (ts : Array Value) (todo : List Item) :
    WU c q bx p k ⟨.ur, 0, true, i, old, aw, sv, it, r, bx, m⟩ (G { (Go.Conc.base 43).at ⟨ts, [dcall 30 #[.pointer (some ⟨c.A, 1, none⟩)]]⟩ todo with mode := .returning } (b₁.at a₁ (.inRegion ops₁ (i₁ :: rest₁) :: k₁) :: cs)) := by
  have hp := K.st
  refine ⟨rfl, fun j hj => ?_⟩
  refine GU.unwind hp rfl Try.func30 nm30 rfl ?_
  walk_nrmf Try.f30
  refine (unlockD K (by omega) (o := 1) (b := true) rfl rfl (k := k) rfl 1 (by omega) (fun old => ⟨rfl, fun j hj => ?_⟩)).2 j hj
  (refine GU.leave0 hp rfl rfl Try.func43 rfl ?_; walk_nrm)
  exact (next old it m).2 j hj
set_option maxHeartbeats 4000000 in
/-- ████ doSlow. ████ -/
theorem doSlowL (K : KN c bx p) (hA : OwnA c bx p) (hB : q.B < 60) (k : Nat) (next : ∀ old it m, WU c q bx p k ⟨.md, 1, false, i, old, false, false, it, r, bx, m⟩ (G (b₁.at (a₁.put ((ops₁[i₁]?).bind (·.dst)) (.tuple #[])) (.inRegion ops₁ rest₁ :: k₁)) cs))
    (old : MuW) (aw sv : Bool) (it : Nat) :
    WU c q bx p k ⟨.md, 0, true, i, old, aw, sv, it, r, bx, m⟩ (G ((Go.Conc.base 43).at ⟨#[.pointer (some ⟨c.A, 0, none⟩), .func (.func 28) #[] #[.pointer (some ⟨bx, 0, none⟩)], undef, undef, undef, undef, undef, undef, undef, undef, undef, undef, undef, undef, undef, undef, undef, undef, undef, undef, undef], []⟩ [.code body43]) (b₁.at a₁ (.inRegion ops₁ (i₁ :: rest₁) :: k₁) :: cs)) := by
  have hp := K.st
  refine ⟨rfl, fun j hj => ?_⟩
  simp only [body43, Try.f43, Option.getD_some]
  (refine GU.ctl hp rfl (fun _ => stepG_seq) ?_; refine GU.ctl hp rfl (fun _ => stepG_region) ?_; simp only [List.size_toArray, List.length_cons, List.length_nil, Nat.reduceAdd, Nat.zero_add, List.range, List.range.loop]; (iterate 3 (refine GU.value hp _ rfl rfl (by k_ne) (fun _ => by go_simp <;> rfl) (fun _ => by simp [go_sem, *]) ?_; walk_nrm)))
  (refine GU.call hp rfl rfl (by k_ne) rfl Try.func29 nm29 rfl ?_; walk_nrmf Try.f29)
  refine (lockL K hB (o := 1) (b := true) rfl rfl (k₀ := k) (cN := 0) (by omega) (fun old aw sv it => ⟨rfl, fun j hj => ?_⟩) old aw sv it).2 j hj
  walk_nrm
  (refine GU.ctl hp rfl (fun _ => stepG_region_end) ?_; refine GU.ctl hp rfl (fun _ => stepG_seq) ?_; refine GU.ctl hp rfl (fun _ => stepG_region) ?_; simp only [List.size_toArray, List.length_cons, List.length_nil, Nat.reduceAdd, Nat.zero_add, List.range, List.range.loop]; (iterate 3 (refine GU.value hp _ rfl rfl (by k_ne) (fun _ => by go_simp <;> rfl) (fun _ => by simp [go_sem, *]) ?_; walk_nrm)))
  (refine GU.ctl hp rfl (fun _ => stepG_defer rfl rfl (by k_ne) rfl) ?_; walk_nrm)
  (refine GU.ctl hp rfl (fun _ => stepG_region_end) ?_; refine GU.ctl hp rfl (fun _ => stepG_seq) ?_; refine GU.ctl hp rfl (fun _ => stepG_region) ?_; simp only [List.size_toArray, List.length_cons, List.length_nil, Nat.reduceAdd, Nat.zero_add, List.range, List.range.loop]; (iterate 3 (refine GU.value hp _ rfl rfl (by k_ne) (fun _ => by go_simp <;> rfl) (fun _ => by simp [go_sem, *]) ?_; walk_nrm)))
  (refine GU.call hp rfl rfl (by k_ne) rfl Try.func42 nm42 rfl ?_; walk_nrmf Try.f42)
  (refine GU.ctl hp rfl (fun _ => stepG_seq) ?_; refine GU.ctl hp rfl (fun _ => stepG_region) ?_; simp only [List.size_toArray, List.length_cons, List.length_nil, Nat.reduceAdd, Nat.zero_add, List.range, List.range.loop]; refine GU.value hp _ rfl rfl (by k_ne) (fun _ => by go_simp <;> rfl) (fun _ => by simp [go_sem, *]) ?_; walk_nrm; refine GU.ctl hp rfl (fun _ => stepG_region_end) ?_; refine GU.ctl hp rfl (fun _ => stepG_seq) ?_; refine GU.ctl hp rfl (fun _ => stepG_region) ?_; simp only [List.size_toArray, List.length_cons, List.length_nil, Nat.reduceAdd, Nat.zero_add, List.range, List.range.loop]; (iterate 3 (refine GU.value hp _ rfl rfl (by k_ne) (fun _ => by go_simp <;> rfl) (fun _ => by simp [go_sem, *]) ?_; walk_nrm)))
  -- STOP dn1
  refine stopW K rfl rfl rfl (by simp [aftL]) (by simp [aftL]) (fun w s hw hs hf => ?_)
  rcases hd : s.done with _ | _
  · have hc : w.cell? (dnA c) = some (.int .u32 0) := by have := hs.cDn; rw [hd] at this; exact this
    refine ⟨⟨.al, 0, true, i, old, aw, sv, it, r, bx, m⟩, 1, s, _, _, _, by simp [Step, aftL, hd], by simp [bare], stepG_load_atomic rfl rfl (by k_ne) rfl Try.func48 x48_n x48_b x48_x .u32 x48_f (ad := dnA c) rfl hc, hs, Eff.refl _ _ _, rfl, by simp [EvW, aftL, rdE], by simp, ?_⟩
    clear hw hs hf hd hc
    refine ⟨rfl, fun j2 hj2 => ?_⟩
    walk_nrm
    ((iterate 2 (refine GU.value hp _ rfl rfl (by k_ne) (fun _ => by go_simp <;> rfl) (fun _ => by simp [go_sem, *]) ?_; walk_nrm)); refine GU.ctl hp rfl (fun _ => stepG_region_end) ?_; refine GU.ctl hp rfl (fun _ => stepG_ret') ?_)
    (refine GU.leave1 hp rfl rfl Try.func42 rfl ?_; walk_nrm)
    (refine GU.value hp _ rfl rfl (by k_ne) (fun _ => by go_simp <;> rfl) (fun _ => by simp [go_sem, *]) ?_; walk_nrm; refine GU.ctl hp rfl (fun _ => stepG_region_end) ?_; refine GU.ctl hp rfl (fun _ => stepG_cond (t := true) rfl) ?_; simp only [if_true, if_false, Bool.false_eq_true, ↓reduceIte]; refine GU.ctl hp rfl (fun _ => stepG_seq) ?_; refine GU.ctl hp rfl (fun _ => stepG_region) ?_; simp only [List.size_toArray, List.length_cons, List.length_nil, Nat.reduceAdd, Nat.zero_add, List.range, List.range.loop]; (iterate 3 (refine GU.value hp _ rfl rfl (by k_ne) (fun _ => by go_simp <;> rfl) (fun _ => by simp [go_sem, *]) ?_; walk_nrm)))
    (refine GU.ctl hp rfl (fun _ => stepG_defer rfl rfl (by k_ne) rfl) ?_; walk_nrm)
    (refine GU.ctl hp rfl (fun _ => stepG_region_end) ?_; refine GU.ctl hp rfl (fun _ => stepG_region) ?_; simp only [List.size_toArray, List.length_cons, List.length_nil, Nat.reduceAdd, Nat.zero_add, List.range, List.range.loop]; refine GU.value hp _ rfl rfl (by k_ne) (fun _ => by go_simp <;> rfl) (fun _ => by simp [go_sem, *]) ?_; walk_nrm)
    refine GU.callT hp rfl rfl (by k_ne) rfl rfl Try.func28 nm28 rfl ?_
    walk_nrmf Try.f28
    refine (f28L K hA k old aw sv it (fun m => ⟨rfl, fun j hj => ?_⟩)).2 j2 (by omega)
    walk_nrm
    (refine GU.ctl hp rfl (fun _ => stepG_region_end) ?_; refine GU.ctl hp rfl (fun _ => stepG_end) ?_)
    refine GU.unwind hp rfl Try.func49 nm49 rfl ?_
    walk_nrmf Try.f49
    exact (storeD K rfl k old aw sv it (slowTail K hB k next old aw sv it _ _)).2 j hj
  · have hc : w.cell? (dnA c) = some (.int .u32 1) := by have := hs.cDn; rw [hd] at this; exact this
    refine ⟨⟨.ur, 0, true, i, old, aw, sv, it, r, bx, m⟩, 0, s, _, _, _, by simp [Step, aftL, hd], by simp [bare], stepG_load_atomic rfl rfl (by k_ne) rfl Try.func48 x48_n x48_b x48_x .u32 x48_f (ad := dnA c) rfl hc, hs, Eff.refl _ _ _, rfl, by simp [EvW, aftL, rdE], by simp, ?_⟩
    clear hw hs hf hd hc
    refine ⟨rfl, fun j2 hj2 => ?_⟩
    walk_nrm
    ((iterate 2 (refine GU.value hp _ rfl rfl (by k_ne) (fun _ => by go_simp <;> rfl) (fun _ => by simp [go_sem, *]) ?_; walk_nrm)); refine GU.ctl hp rfl (fun _ => stepG_region_end) ?_; refine GU.ctl hp rfl (fun _ => stepG_ret') ?_)
    (refine GU.leave1 hp rfl rfl Try.func42 rfl ?_; walk_nrm)
    (refine GU.value hp _ rfl rfl (by k_ne) (fun _ => by go_simp <;> rfl) (fun _ => by simp [go_sem, *]) ?_; walk_nrm; refine GU.ctl hp rfl (fun _ => stepG_region_end) ?_; refine GU.ctl hp rfl (fun _ => stepG_cond (t := false) rfl) ?_; simp only [if_true, if_false, Bool.false_eq_true, ↓reduceIte]; refine GU.ctl hp rfl (fun _ => stepG_skip) ?_; refine GU.ctl hp rfl (fun _ => stepG_end) ?_)
    exact (slowTail K hB k next old aw sv it _ _).2 j2 (by omega)
set_option maxHeartbeats 4000000 in
/-- ████ Do. ████ -/
theorem doL (K : KN c bx p) (hA : OwnA c bx p) (hB : q.B < 60) (k : Nat) (next : ∀ old it m, WU c q bx p k ⟨.md, 1, false, i, old, false, false, it, r, bx, m⟩ (G (b₁.at (a₁.put ((ops₁[i₁]?).bind (·.dst)) (.tuple #[])) (.inRegion ops₁ rest₁ :: k₁)) cs))
    (old : MuW) (aw sv : Bool) (it : Nat) (b : Bool) :
    WU c q bx p k ⟨.dn0, 0, b, i, old, aw, sv, it, r, bx, m⟩ (G ((Go.Conc.base 27).at ⟨#[.pointer (some ⟨c.A, 0, none⟩), .func (.func 28) #[] #[.pointer (some ⟨bx, 0, none⟩)], undef, undef, undef, undef, undef, undef, undef, undef, undef, undef], []⟩ [.code body27]) (b₁.at a₁ (.inRegion ops₁ (i₁ :: rest₁) :: k₁) :: cs)) := by
  have hp := K.st
  refine ⟨rfl, fun j hj => ?_⟩
  simp only [body27, Try.f27, Option.getD_some]
  (refine GU.ctl hp rfl (fun _ => stepG_seq) ?_; refine GU.ctl hp rfl (fun _ => stepG_region) ?_; simp only [List.size_toArray, List.length_cons, List.length_nil, Nat.reduceAdd, Nat.zero_add, List.range, List.range.loop]; (iterate 3 (refine GU.value hp _ rfl rfl (by k_ne) (fun _ => by go_simp <;> rfl) (fun _ => by simp [go_sem, *]) ?_; walk_nrm)))
  (refine GU.call hp rfl rfl (by k_ne) rfl Try.func42 nm42 rfl ?_; walk_nrmf Try.f42)
  (refine GU.ctl hp rfl (fun _ => stepG_seq) ?_; refine GU.ctl hp rfl (fun _ => stepG_region) ?_; simp only [List.size_toArray, List.length_cons, List.length_nil, Nat.reduceAdd, Nat.zero_add, List.range, List.range.loop]; refine GU.value hp _ rfl rfl (by k_ne) (fun _ => by go_simp <;> rfl) (fun _ => by simp [go_sem, *]) ?_; walk_nrm; refine GU.ctl hp rfl (fun _ => stepG_region_end) ?_; refine GU.ctl hp rfl (fun _ => stepG_seq) ?_; refine GU.ctl hp rfl (fun _ => stepG_region) ?_; simp only [List.size_toArray, List.length_cons, List.length_nil, Nat.reduceAdd, Nat.zero_add, List.range, List.range.loop]; (iterate 3 (refine GU.value hp _ rfl rfl (by k_ne) (fun _ => by go_simp <;> rfl) (fun _ => by simp [go_sem, *]) ?_; walk_nrm)))
  -- STOP dn0
  refine stopW K rfl rfl rfl (by simp) (by simp) (fun w s hw hs hf => ?_)
  rcases hd : s.done with _ | _
  · have hc : w.cell? (dnA c) = some (.int .u32 0) := by have := hs.cDn; rw [hd] at this; exact this
    refine ⟨⟨.md, 0, true, i, old, false, false, it, r, bx, m⟩, 0, s, _, _, _, by simp [Step, hd], by simp [bare], stepG_load_atomic rfl rfl (by k_ne) rfl Try.func48 x48_n x48_b x48_x .u32 x48_f (ad := dnA c) rfl hc, hs, Eff.refl _ _ _, rfl, by simp [EvW, rdE], by simp, ?_⟩
    clear hw hs hf hd hc
    refine ⟨rfl, fun j2 hj2 => ?_⟩
    walk_nrm
    ((iterate 2 (refine GU.value hp _ rfl rfl (by k_ne) (fun _ => by go_simp <;> rfl) (fun _ => by simp [go_sem, *]) ?_; walk_nrm)); refine GU.ctl hp rfl (fun _ => stepG_region_end) ?_; refine GU.ctl hp rfl (fun _ => stepG_ret') ?_)
    (refine GU.leave1 hp rfl rfl Try.func42 rfl ?_; walk_nrm)
    (refine GU.value hp _ rfl rfl (by k_ne) (fun _ => by go_simp <;> rfl) (fun _ => by simp [go_sem, *]) ?_; walk_nrm; refine GU.ctl hp rfl (fun _ => stepG_region_end) ?_; refine GU.ctl hp rfl (fun _ => stepG_cond (t := true) rfl) ?_; simp only [if_true, if_false, Bool.false_eq_true, ↓reduceIte]; refine GU.ctl hp rfl (fun _ => stepG_region) ?_; simp only [List.size_toArray, List.length_cons, List.length_nil, Nat.reduceAdd, Nat.zero_add, List.range, List.range.loop]; (iterate 2 (refine GU.value hp _ rfl rfl (by k_ne) (fun _ => by go_simp <;> rfl) (fun _ => by simp [go_sem, *]) ?_; walk_nrm)))
    (refine GU.call hp rfl rfl (by k_ne) rfl Try.func43 nm43 rfl ?_; walk_nrmf Try.f43)
    refine (doSlowL K hA hB k (fun old it m => ⟨rfl, fun j hj => ?_⟩) old false false it).2 j2 (by omega)
    walk_nrm
    (refine GU.ctl hp rfl (fun _ => stepG_region_end) ?_; refine GU.ctl hp rfl (fun _ => stepG_end) ?_)
    (refine GU.leave0 hp rfl rfl Try.func27 rfl ?_; walk_nrm)
    exact (next old it m).2 j hj
  · have hc : w.cell? (dnA c) = some (.int .u32 1) := by have := hs.cDn; rw [hd] at this; exact this
    refine ⟨⟨.md, 0, false, i, old, false, false, it, r, bx, m⟩, 1, s, _, _, _, by simp [Step, hd], by simp [bare], stepG_load_atomic rfl rfl (by k_ne) rfl Try.func48 x48_n x48_b x48_x .u32 x48_f (ad := dnA c) rfl hc, hs, Eff.refl _ _ _, rfl, by simp [EvW, rdE], by simp, ?_⟩
    clear hw hs hf hd hc
    refine ⟨rfl, fun j2 hj2 => ?_⟩
    walk_nrm
    ((iterate 2 (refine GU.value hp _ rfl rfl (by k_ne) (fun _ => by go_simp <;> rfl) (fun _ => by simp [go_sem, *]) ?_; walk_nrm)); refine GU.ctl hp rfl (fun _ => stepG_region_end) ?_; refine GU.ctl hp rfl (fun _ => stepG_ret') ?_)
    (refine GU.leave1 hp rfl rfl Try.func42 rfl ?_; walk_nrm)
    (refine GU.value hp _ rfl rfl (by k_ne) (fun _ => by go_simp <;> rfl) (fun _ => by simp [go_sem, *]) ?_; walk_nrm; refine GU.ctl hp rfl (fun _ => stepG_region_end) ?_; refine GU.ctl hp rfl (fun _ => stepG_cond (t := false) rfl) ?_; simp only [if_true, if_false, Bool.false_eq_true, ↓reduceIte]; refine GU.ctl hp rfl (fun _ => stepG_skip) ?_; refine GU.ctl hp rfl (fun _ => stepG_end) ?_)
    (refine GU.leave0 hp rfl rfl Try.func27 rfl ?_; walk_nrm)
    exact (next old it m).2 j2 (by omega)
end
end Go.Proofs.Ytnlopklbbajlbaa.Sw
