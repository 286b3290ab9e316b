/- LightOnce: what it is given; what has been seen, plainly. -/
import Derived.Test.YtnlopklbbajlbaaSwHC
import Derived.Test.YtnlopklbbajlbaaSwNJ
import Derived.Laws.Tables
set_option linter.unusedVariables false
set_option linter.unusedSimpArgs false
set_option linter.deprecated false
namespace Go.Proofs.Ytnlopklbbajlbaa.Sw
open Go Go.Conc Go.ConcN
open Go.ConcM (OsLater)

/-! ### what is new, name by name -/
theorem newF_step_in {S : List ByteArray} {nm : Nat → ByteArray} {j : Nat} (h : nm j ∈ S ++ newF S (conF nm j)) : newF S (conF nm (j + 1)) = newF S (conF nm j) := by
  simp only [conF]
  rcases hm : memB (nm j) (conF nm j) with _ | _
  · have h1 := memB_false.1 hm
    have h2 : nm j ∈ S := by
      rcases List.mem_append.1 h with h | h
      · exact h
      · exact absurd (List.mem_filter.1 h).1 h1
    simp only [Bool.false_eq_true, if_false]
    unfold newF
    rw [List.filter_append]
    simp [memB_true.2 h2]
  · rfl
theorem newF_step_out {S : List ByteArray} {nm : Nat → ByteArray} {j : Nat} (h : nm j ∉ S ++ newF S (conF nm j)) : newF S (conF nm (j + 1)) = newF S (conF nm j) ++ [nm j] := by
  have h2 : nm j ∉ S := fun x => h (List.mem_append.2 (.inl x))
  have h1 : nm j ∉ conF nm j := fun x => h (List.mem_append.2 (.inr (List.mem_filter.2 ⟨x, by simp [memB_false.2 h2]⟩)))
  simp only [conF, memB_false.2 h1, Bool.false_eq_true, if_false]
  unfold newF
  rw [List.filter_append]
  simp [memB_false.2 h2]
theorem newF_prefix (S : List ByteArray) (nm : Nat → ByteArray) (j : Nat) : ∀ d, ∃ t, newF S (conF nm (j + d)) = newF S (conF nm j) ++ t
  | 0 => ⟨[], by simp⟩
  | d + 1 => by
    obtain ⟨t, ht⟩ := newF_prefix S nm j d
    by_cases h : nm (j + d) ∈ S ++ newF S (conF nm (j + d))
    · exact ⟨t, by rw [← Nat.add_assoc, newF_step_in h, ht]⟩
    · exact ⟨t ++ [nm (j + d)], by rw [← Nat.add_assoc, newF_step_out h, ht, List.append_assoc]⟩
/-- The new name stands in the answer where one looks. -/
theorem newF_at {S : List ByteArray} {nm : Nat → ByteArray} {j N : Nat} (hj : j < N) (h : nm j ∉ S ++ newF S (conF nm j)) : (newF S (conF nm N))[(newF S (conF nm j)).length]? = some (nm j) := by
  obtain ⟨t, ht⟩ := newF_prefix S nm (j + 1) (N - (j + 1))
  rw [show j + 1 + (N - (j + 1)) = N from by omega, newF_step_out h] at ht
  rw [ht]
  simp
theorem newF_len (S : List ByteArray) (nm : Nat → ByteArray) (j : Nat) : (newF S (conF nm j)).length ≤ j := by
  have h1 : (newF S (conF nm j)).length ≤ (conF nm j).length := List.length_filter_le _ _
  have h2 := ixF_len nm j
  rw [conF_len] at h1
  omega
theorem newF_congr {S S' : List ByteArray} (h : ∀ x, x ∈ S ↔ x ∈ S') (l : List ByteArray) : newF S l = newF S' l := by
  unfold newF
  congr 1
  funext x
  congr 1
  rcases hm : memB x S' with _ | _
  · exact memB_false.2 fun y => memB_false.1 hm ((h x).1 y)
  · exact memB_true.2 ((h x).2 (memB_true.1 hm))
theorem newF_mem {S l : List ByteArray} (x : ByteArray) : x ∈ S ++ newF S l ↔ x ∈ S ∨ x ∈ l := by
  rw [List.mem_append]
  constructor
  · rintro (h | h)
    · exact .inl h
    · exact .inr (List.mem_filter.1 h).1
  · rintro (h | h)
    · exact .inl h
    · by_cases h2 : x ∈ S
      · exact .inl h2
      · exact .inr (List.mem_filter.2 ⟨h, by simp [memB_false.2 h2]⟩)
theorem newF_nodup {S l : List ByteArray} (hS : S.Nodup) (hl : l.Nodup) : (S ++ newF S l).Nodup := by
  rw [List.nodup_append]
  refine ⟨hS, List.Nodup.sublist List.filter_sublist hl, fun a ha b hb e => ?_⟩
  subst e
  have := (List.mem_filter.1 hb).2
  simp [memB_true.2 ha] at this
theorem nodup_leq {α : Type} : ∀ {l l' : List α}, l.Nodup → (∀ x, x ∈ l → x ∈ l') → l.length ≤ l'.length
  | [], _, _, _ => Nat.zero_le _
  | a :: t, l', h, hs => by
    obtain ⟨l1, l2, rfl⟩ := List.append_of_mem (hs a List.mem_cons_self)
    rw [List.nodup_cons] at h
    have := nodup_leq (l := t) (l' := l1 ++ l2) h.2 (fun x hx => by
      have h1 := hs x (List.mem_cons_of_mem _ hx)
      simp only [List.mem_append, List.mem_cons] at h1 ⊢
      rcases h1 with h1 | rfl | h1
      · exact .inl h1
      · exact absurd hx h.1
      · exact .inr h1)
    simp only [List.length_append, List.length_cons] at this ⊢
    omega
theorem nodup_len {α : Type} {l l' : List α} (h : l.Nodup) (h' : l'.Nodup) (hs : ∀ x, x ∈ l ↔ x ∈ l') : l.length = l'.length :=
  Nat.le_antisymm (nodup_leq h fun x => (hs x).1) (nodup_leq h' fun x => (hs x).2)

/-! ### the sum of the lengths -/
def sumW (rn : Nat → Nat) : Nat → Int
  | 0 => 0
  | i + 1 => IntKind.i64.wrap (sumW rn i + rn i)
def totN (rn : Nat → Nat) : Nat → Nat
  | 0 => 0
  | i + 1 => totN rn i + rn i
theorem sumW_tot (rn : Nat → Nat) (L : Nat) (hr : ∀ i, i < L → rn i ≤ 281474976710656) : ∀ i, i ≤ L → i ≤ 30 → sumW rn i = (totN rn i : Int) ∧ totN rn i ≤ 281474976710656 * i
  | 0, _, _ => ⟨rfl, Nat.le_refl _⟩
  | i + 1, h1, h2 => by
    obtain ⟨e1, e2⟩ := sumW_tot rn L hr i (by omega) (by omega)
    have e3 := hr i (by omega)
    simp only [sumW, totN]
    rw [e1, IntKind.wrap_i64]
    constructor <;> omega
theorem totN_le (rn : Nat → Nat) {i : Nat} : ∀ {L : Nat}, i < L → rn i ≤ totN rn L
  | 0, h => by omega
  | L + 1, h => by
    simp only [totN]
    by_cases e : i = L
    · subst e; omega
    · have := totN_le rn (i := i) (L := L) (by omega); omega

/-! ### what it is given -/
structure Inp (W : World) (lp : Option Addr) (L : Nat) (wp : Option Addr) (K : Nat) (rq : Nat → Option Addr) (rn rc : Nat → Nat) (s : Nat → Nat → ByteArray) (wk : Nat → Int) : Prop where
  l : 0 < L → ∃ b o, lp = some ⟨b, o, none⟩ ∧ ∀ i, i < L → W.cell? ⟨b, o + i, none⟩ = some (.slice (rq i) (rn i) (rc i))
  r : ∀ i, i < L → 0 < rn i → ∃ b o, rq i = some ⟨b, o, none⟩ ∧ ∀ k, k < rn i → W.cell? ⟨b, o + k, none⟩ = some (.string (s i k))
  w : 0 < K → ∃ b o, wp = some ⟨b, o, none⟩ ∧ ∀ i, i < K → W.cell? ⟨b, o + i, none⟩ = some (.int .i64 (wk i))
  lL : L ≤ 281474976710656
  lK : K ≤ 281474976710656
  lr : ∀ i, i < L → rn i ≤ 281474976710656
/-- WHAT IS LEFT AS IT WAS. -/
structure Lw (W w : World) : Prop where
  os : OsLater W.os w.os
  tape : w.tape = W.tape
  output : w.output = W.output
  size : W.heap.size ≤ w.heap.size
  block : ∀ b, b < W.heap.size → w.heap[b]? = W.heap[b]?
section
variable {W w w' : World}
theorem Lw.cell (h : Lw W w) {a : Addr} {v : Value} (hc : W.cell? a = some v) : w.cell? a = some v := by
  rw [← hc]
  exact cell_of (h.block _ (World.block_lt_of_cell? W a hc))
theorem Lw.grown {row : Option Nat} (h : Lw W w) (g : w.grownBy w' row) (hr : ∀ k, row = some k → W.heap.size ≤ k) : Lw W w' :=
  ⟨by rw [g.os]; exact h.os, g.tape.trans h.tape, g.output.trans h.output, Nat.le_trans h.size g.size, fun b hb => (g.block b (Nat.lt_of_lt_of_le hb h.size) (fun e => by have := hr b e.symm; omega)).trans (h.block b hb)⟩
theorem Lw.refl (W : World) : Lw W W := ⟨.refl _, rfl, rfl, Nat.le_refl _, fun _ _ => rfl⟩
theorem Lw.see {A : Nat} {M : Option Nat} (h : Lw W w) (g : SeeW A M w w') (hA : W.heap.size ≤ A) (hM : ∀ mp, M = some mp → W.heap.size ≤ mp) : Lw W w' :=
  ⟨h.os.trans g.os, g.tape.trans h.tape, g.output.trans h.output, Nat.le_trans h.size g.size, fun b hb => (g.block b (Nat.lt_of_lt_of_le hb h.size) (by omega) (fun e => by have := hM b e; omega)).trans (h.block b hb)⟩
theorem Lw.at (h : Lw W w) (d : Nat) : Lw W (w.at d) := ⟨h.os, h.tape, h.output, h.size, h.block⟩
theorem Lw.alloc (h : Lw W w) (o : Obj) : Lw W (w.alloc o) := ⟨h.os, h.tape, h.output, by rw [alloc_size]; have := h.size; omega, fun b hb => by
  show (w.heap.push o)[b]? = _
  rw [Array.getElem?_push, if_neg (by have := h.size; omega)]
  exact h.block b hb⟩
end
/-- BETWEEN TWO CALLS OF See: the alerts A, what has been seen (s, the value sv). -/
structure LO (W : World) (A : Nat) (S : List ByteArray) (M : Option Nat) (seen : List ByteArray) (sv : Value) (w : World) : Prop where
  lw : Lw W w
  al : AlAt w A S M
  aH : W.heap.size ≤ A
  mH : ∀ mp, M = some mp → W.heap.size ≤ mp
  row : w.ownsRow W.heap.size 9 1 sv seen.length (seen.map Value.string)
  nodup : seen.Nodup
  same : ∀ x, x ∈ S ↔ x ∈ seen
/-- The function's end. -/
def FinL (W : World) (Shun : Loc → Prop) (g : Goroutine) (w : World) : Prop := ∀ d, AtEnd Try.prog Shun w.heap.size (fun v w => v = .bool true ∧ Lw W w) g (w.at d)
end Go.Proofs.Ytnlopklbbajlbaa.Sw

set_option linter.unusedVariables false
set_option linter.unusedSimpArgs false
set_option maxRecDepth 100000
namespace Go.Proofs.Ytnlopklbbajlbaa.Sw
open Go Go.Conc Go.ConcN Go.RowKit
open Go.ConcR (DC0 stA smA)
noncomputable def body3 : Code := Try.f3.body.getD .skip
noncomputable def ops34 : Array Oper := (regionOf 4 body3).getD #[]
noncomputable def REST5 : Code := (tailFrom 5 body3).getD .skip
def bA : ByteArray := ⟨#[97]⟩
def bB : ByteArray := ⟨#[98]⟩
section
variable {Shun : Loc → Prop} {Stop : Goroutine → World → Prop} {n : Nat} {w : World} {b : Frame} {a : Act} {kk : List Item} {cs : List Frame} {ops : Array Oper} {i : Nat} {rest : List Nat} {o : Oper} {x y : Operand}
theorem hpe0 (d : Nat) (es : Array Event) (w : World) (p : Addr) : (Op.equalIn (d + 1) 24 (.pointer (some p)) (.pointer none)).events Try.prog w es = es := by
  have h : Try.prog.underlying 24 = some (.pointer 46) := by kernel_rfl
  simp only [Op.equalIn]
  rw [Sem.events_bind, run_underlying h, Result.evThen_ok, events_underlying]
  rfl
theorem hpe1 (es : Array Event) (w : World) (p : Addr) : (Op.equalIn 10000 24 (.pointer (some p)) (.pointer none)).events Try.prog w es = es := hpe0 9999 es w p
theorem hpe (es : Array Event) (w : World) (p : Addr) : (binOp .eql 24 (.pointer (some p)) (.pointer none)).events Try.prog w es = es := by
  simp [Go.binOp, go_sem, Op.equal, Op.maxDepth, hpe1]
theorem built46 : Try.prog.built 46 [] = some cells0 := by kernel_rfl
theorem ev_build (w : World) (es : Array Event) : (Instr.build 46 #[]).events Try.prog w es = es := by
  unfold Instr.build
  simp [go_sem]
theorem build_run {w : World} (hop : o.op = .build 46 #[]) :
    (execOp a.eval o).run Try.prog w = .ok (.value (.agg cells0)) w ∧ (execOp a.eval o).events Try.prog w #[] = #[] := by
  have h := run_build (P := Try.prog) w 46 #[] cells0 built46
  have h2 := ev_build w #[]
  constructor
  · unfold execOp
    simp only [hop]
    simp [go_sem, h]
  · unfold execOp
    simp only [hop]
    simp [go_sem, h, h2]
theorem boxA_run {w : World} (hop : o.op = .box 46 x) (hx : a.eval x = .agg cells0) :
    (execOp a.eval o).run Try.prog w = .ok (.value (.pointer (some ⟨w.heap.size, 0, none⟩))) (w.alloc (.cells cells0 46)) ∧ (execOp a.eval o).events Try.prog w #[] = #[] := by
  constructor
  · unfold execOp
    simp only [hop, hx]
    simp [go_sem, cells0]
  · unfold execOp
    simp only [hop, hx]
    simp [go_sem, cells0]
theorem LG.boxA (ho : ops[i]? = some o) (hw : Region.wanted o (yielded ops a.tmps) = true) (hk : b.kind ≠ .early) (hop : o.op = .box 46 x) (hx : a.eval x = .agg cells0)
    (k : Goes Try.prog true AtRel (DL Shun) Stop n (G (b.at (a.put o.dst (.pointer (some ⟨w.heap.size, 0, none⟩))) (.inRegion ops rest :: kk)) cs) (w.alloc (.cells cells0 46))) : Goes Try.prog true AtRel (DL Shun) Stop (n + 1) (G (b.at a (.inRegion ops (i :: rest) :: kk)) cs) w :=
  LG.new (v := .pointer (some ⟨w.heap.size, 0, none⟩)) ho hw hk (fun d => boxA_run hop hx) k
theorem bsL_run {w : World} (hop : o.op = .buildSlice 26 3 #[(0, .const (.string bA)), (1, .const (.string bB)), (2, .const (.string bA))]) :
    (execOp a.eval o).run Try.prog w = .ok (.value (.slice (some ⟨w.heap.size, 0, none⟩) 3 3)) (w.alloc (.cells #[.string bA, .string bB, .string bA] 9)) ∧ (execOp a.eval o).events Try.prog w #[] = #[] := by
  constructor
  · unfold execOp
    simp only [hop]
    simp [go_sem]
  · unfold execOp
    simp only [hop]
    simp [go_sem]
theorem LG.bsL (ho : ops[i]? = some o) (hw : Region.wanted o (yielded ops a.tmps) = true) (hk : b.kind ≠ .early) (hop : o.op = .buildSlice 26 3 #[(0, .const (.string bA)), (1, .const (.string bB)), (2, .const (.string bA))])
    (k : Goes Try.prog true AtRel (DL Shun) Stop n (G (b.at (a.put o.dst (.slice (some ⟨w.heap.size, 0, none⟩) 3 3)) (.inRegion ops rest :: kk)) cs) (w.alloc (.cells #[.string bA, .string bB, .string bA] 9))) : Goes Try.prog true AtRel (DL Shun) Stop (n + 1) (G (b.at a (.inRegion ops (i :: rest) :: kk)) cs) w :=
  LG.new (v := .slice (some ⟨w.heap.size, 0, none⟩) 3 3) ho hw hk (fun d => bsL_run hop) k
end

/-- A slot's value out of a list. -/
def pick : List Value → Nat → Value
  | [], _ => undef
  | a :: _, 0 => a
  | _ :: l, n + 1 => pick l n
/-- ████ LIGHTONCE STANDS AT ITS FIRST See. ████ -/
def Call0 (W : World) (lv wv : Value) (g : Goroutine) (w : World) : Prop :=
  ∃ (A : Nat) (T : Nat → Value), A = W.heap.size ∧ g = G ((Go.Conc.base 5).at ⟨#[.pointer (some ⟨A, 0, none⟩), .slice (some ⟨A + 1, 0, none⟩) 3 3, .int .i64 3, undef, undef, undef, undef, undef, undef, undef, undef, undef, undef, undef, undef, undef, undef, undef, undef, undef, undef, undef, undef, undef, undef, undef, undef, undef, undef, undef, undef, undef, undef, undef, undef, undef, undef, undef, undef, undef, undef, undef, undef, undef, undef, undef, undef, undef, undef, undef, undef, undef, undef, undef, undef, undef, undef, undef, undef, undef, undef, undef, undef, undef, undef, undef, undef, undef, undef, undef, undef, undef, undef, undef, undef, undef, undef], []⟩ [.code body5]) [(Go.Conc.base 3).at ⟨#[lv, wv, T 2, T 3, .bool false, .pointer (some ⟨A, 0, none⟩), T 6, T 7, T 8, T 9, T 10, T 11, T 12, T 13, T 14, T 15, T 16, T 17, T 18, T 19, T 20, T 21, T 22, T 23, T 24, T 25, T 26, T 27, T 28, T 29, T 30, T 31, T 32, T 33, T 34, T 35, T 36, T 37, T 38, T 39, T 40, T 41, T 42, T 43, T 44, T 45, T 46, T 47, T 48, T 49, T 50, T 51, T 52, T 53, T 54, T 55, T 56, T 57, T 58, T 59, T 60, T 61, T 62, T 63, T 64, T 65, T 66, T 67, T 68, T 69, T 70, T 71, T 72, T 73, T 74, T 75, T 76, T 77, T 78, T 79, T 80, T 81, T 82, T 83, T 84, T 85, T 86, T 87, T 88, T 89, T 90, T 91, T 92, T 93, T 94, T 95, T 96, T 97, T 98, T 99, T 100, T 101, T 102, T 103, T 104, T 105, T 106, T 107, T 108, T 109, T 110, T 111, T 112, T 113, T 114, T 115, T 116, T 117, T 118, T 119, T 120, T 121, T 122, T 123, T 124, T 125, T 126, T 127, T 128, T 129, T 130, T 131], []⟩ [.inRegion ops34 [2, 3], .code REST5]] ∧
    W.grownBy w none ∧ w.heap.size = A + 2 ∧ w.heap[A]? = some (.cells cells0 46) ∧ w.heap[A + 1]? = some (.cells #[.string bA, .string bB, .string bA] 9)

section
variable {Shun : Loc → Prop} {W : World} {lv wv : Value}
set_option maxHeartbeats 16000000 in
theorem seg0 : ∃ m, Goes Try.prog true AtRel (DL Shun) (Call0 W lv wv) m (G ((Go.Conc.base 3).at ⟨#[lv, wv, undef, undef, undef, undef, undef, undef, undef, undef, undef, undef, undef, undef, undef, undef, undef, undef, undef, undef, undef, undef, undef, undef, undef, undef, undef, undef, undef, undef, undef, undef, undef, undef, undef, undef, undef, undef, undef, undef, undef, undef, undef, undef, undef, undef, undef, undef, undef, undef, undef, undef, undef, undef, undef, undef, undef, undef, undef, undef, undef, undef, undef, undef, undef, undef, undef, undef, undef, undef, undef, undef, undef, undef, undef, undef, undef, undef, undef, undef, undef, undef, undef, undef, undef, undef, undef, undef, undef, undef, undef, undef, undef, undef, undef, undef, undef, undef, undef, undef, undef, undef, undef, undef, undef, undef, undef, undef, undef, undef, undef, undef, undef, undef, undef, undef, undef, undef, undef, undef, undef, undef, undef, undef, undef, undef, undef, undef, undef, undef, undef, undef], []⟩ [.code body3]) []) W := by
  have hD := dl_idle Shun
  have hpe' := hpe
  refine ⟨200, ?_⟩
  simp only [body3, Try.f3, Option.getD_some]
  (refine LG.ctl hD rfl (fun _ => stepG_seq) ?_; refine LG.ctl hD rfl (fun _ => stepG_region) ?_; simp only [List.size_toArray, List.length_cons, List.length_nil, Nat.reduceAdd, Nat.zero_add, List.range, List.range.loop]; refine LG.value hD _ rfl rfl (by k_ne) (fun _ => by go_simp <;> rfl) (fun _ => by simp [go_sem, *]) ?_; walk_nrm; refine LG.ctl hD rfl (fun _ => stepG_region_end) ?_; refine LG.ctl hD rfl (fun _ => stepG_seq) ?_; refine LG.ctl hD rfl (fun _ => stepG_region) ?_; simp only [List.size_toArray, List.length_cons, List.length_nil, Nat.reduceAdd, Nat.zero_add, List.range, List.range.loop])
  (refine LG.call hD rfl rfl (by k_ne) rfl Try.func4 nm4 rfl ?_; walk_nrmf Try.f4)
  (refine LG.ctl hD rfl (fun _ => stepG_seq) ?_; refine LG.ctl hD rfl (fun _ => stepG_region) ?_; simp only [List.size_toArray, List.length_cons, List.length_nil, Nat.reduceAdd, Nat.zero_add, List.range, List.range.loop]; refine LG.value hD _ rfl rfl (by k_ne) (fun _ => by go_simp <;> rfl) (fun _ => by simp [go_sem, *]) ?_; walk_nrm; refine LG.ctl hD rfl (fun _ => stepG_region_end) ?_; refine LG.ctl hD rfl (fun _ => stepG_seq) ?_; refine LG.ctl hD rfl (fun _ => stepG_region) ?_; simp only [List.size_toArray, List.length_cons, List.length_nil, Nat.reduceAdd, Nat.zero_add, List.range, List.range.loop])
  refine LG.value hD (.agg cells0) rfl rfl (by k_ne) (fun w => (build_run rfl).1) (fun w => (build_run rfl).2) ?_
  walk_nrm
  refine LG.boxA rfl rfl (by k_ne) rfl rfl ?_
  generalize hA : W.heap.size = A
  generalize hw1 : W.alloc (.cells cells0 46) = w1
  have s1 : w1.heap.size = A + 1 := by rw [← hw1, alloc_size, hA]
  walk_nrm
  (refine LG.value hD _ rfl rfl (by k_ne) (fun _ => by go_simp <;> rfl) (fun _ => by simp [go_sem, *]) ?_; walk_nrm; refine LG.ctl hD rfl (fun _ => stepG_region_end) ?_; refine LG.ctl hD rfl (fun _ => stepG_ret') ?_)
  (refine LG.leave1 hD rfl rfl Try.func4 rfl ?_; walk_nrm)
  (refine LG.value hD _ rfl rfl (by k_ne) (fun _ => by go_simp <;> rfl) (fun _ => by simp [go_sem, *]) ?_; walk_nrm; refine LG.ctl hD rfl (fun _ => stepG_region_end) ?_; (iterate 2 (refine LG.ctl hD rfl (fun _ => stepG_seq) ?_)); refine LG.ctl hD rfl (fun _ => stepG_region) ?_; simp only [List.size_toArray, List.length_cons, List.length_nil, Nat.reduceAdd, Nat.zero_add, List.range, List.range.loop]; (iterate 2 (refine LG.value hD _ rfl rfl (by k_ne) (fun _ => by go_simp <;> rfl) (fun _ => by simp [go_sem, *]) ?_; walk_nrm)); refine LG.ctl hD rfl (fun _ => stepG_region_end) ?_; refine LG.ctl hD rfl (fun _ => stepG_cond (t := false) rfl) ?_; simp only [if_true, if_false, Bool.false_eq_true, ↓reduceIte]; refine LG.ctl hD rfl (fun _ => stepG_skip) ?_; refine LG.ctl hD rfl (fun _ => stepG_seq) ?_; refine LG.ctl hD rfl (fun _ => stepG_region) ?_; simp only [List.size_toArray, List.length_cons, List.length_nil, Nat.reduceAdd, Nat.zero_add, List.range, List.range.loop]; refine LG.value hD _ rfl rfl (by k_ne) (fun _ => by go_simp <;> rfl) (fun _ => by simp [go_sem, *]) ?_; walk_nrm)
  refine LG.bsL rfl rfl (by k_ne) rfl ?_
  rw [s1]
  generalize hw2 : w1.alloc (.cells #[.string bA, .string bB, .string bA] 9) = w2
  have s2 : w2.heap.size = A + 2 := by rw [← hw2, alloc_size, s1]
  have push : ∀ (w : World) (o : Obj) (b : Nat), (w.alloc o).heap[b]? = if b = w.heap.size then some o else w.heap[b]? := fun w o b => Array.getElem?_push
  have h0 : w2.heap[A]? = some (.cells cells0 46) := by rw [← hw2, push, if_neg (by omega), ← hw1, push, if_pos hA.symm]
  have h1 : w2.heap[A + 1]? = some (.cells #[.string bA, .string bB, .string bA] 9) := by rw [← hw2, push, if_pos s1.symm]
  have hg : W.grownBy w2 none := by rw [← hw2, ← hw1]; exact grown_alloc (grown_alloc ⟨rfl, rfl, rfl, Nat.le_refl _, fun _ _ _ => rfl⟩ _) _
  clear hw1 hw2 push
  walk_nrm
  (refine LG.call hD rfl rfl (by k_ne) rfl Try.func5 nm5 rfl ?_; walk_nrmf Try.f5)
  refine Goes.stop fun w₁ hr => ?_
  obtain ⟨d, rfl⟩ := hr
  exact ⟨A, pick [undef, undef, _, _, undef, undef, _, _, _, _, _, _, _, _, _, _, _, _, _, _, _, _, _, _, _, _, _, _, _, _, _, _, _, _, _, _, _, _, _, _, _, _, _, _, _, _, _, _, _, _, _, _, _, _, _, _, _, _, _, _, _, _, _, _, _, _, _, _, _, _, _, _, _, _, _, _, _, _, _, _, _, _, _, _, _, _, _, _, _, _, _, _, _, _, _, _, _, _, _, _, _, _, _, _, _, _, _, _, _, _, _, _, _, _, _, _, _, _, _, _, _, _, _, _, _, _, _, _, _, _, _, _], hA.symm, rfl, grown_at hg d, s2, h0, h1⟩
end
end Go.Proofs.Ytnlopklbbajlbaa.Sw
