/- LightOnce: goroutine 0 beside goroutines that only leave: its reads, its stores, its new blocks; the walk is carried out by the machine. -/
import Derived.Test.YtnlopklbbajlbaaSwND
import Derived.Conc.AppendWalk
set_option linter.unusedVariables false
set_option linter.unusedSimpArgs false
set_option maxRecDepth 100000
namespace Go.Proofs.Ytnlopklbbajlbaa.Sw
open Go Go.Conc Go.ConcN Go.RowKit
open Go.ConcN (sumTo upd sumTo_upd upd_ne upd_same)
open Go.ConcR (DC0 stA smA deafBehind_cons deafBehind_one)

/-- WHAT IT MAY DO: it lists nothing of a shunned place, and names no block that is not there. -/
def DL (Shun : Loc → Prop) (w w' : World) (es : Array Event) : Prop := w.heap.size ≤ w'.heap.size ∧ ∀ e ∈ es, EvL Shun w'.heap.size e
theorem dl_idle (Shun : Loc → Prop) : ∀ w, DL Shun w w #[] := fun w => ⟨Nat.le_refl _, by simp⟩

section
variable {Shun : Loc → Prop} {Stop : Goroutine → World → Prop}
/-- ████ ITS WALK, carried out by the machine on whatever tape (after Derived/Conc/Beside.lean's law, the bound being the heap's size as it grows). ████ -/
theorem walk_on {P : Program} :
    ∀ (M n : Nat) (gs : Array Goroutine) (a : Goroutine) (w : World) (sl : Option (Nat × Nat)) (t : Trace) (q : Nat → Nat), n + sumTo gs.size q ≤ M → gs[0]? = some a → Leavers P t gs q → Past Shun w.heap.size t →
      Goes P true AtRel (DL Shun) Stop n a w →
      ∃ (N : Nat) (gs' : Array Goroutine) (a' : Goroutine) (w' : World) (sl' : Option (Nat × Nat)) (t' : Trace) (q' : Nat → Nat),
        runNT P N (crowd gs w sl) t = (.next (crowd gs' w' sl'), t') ∧ gs'.size = gs.size ∧ gs'[0]? = some a' ∧ Stop a' w' ∧ Leavers P t' gs' q' ∧ Past Shun w'.heap.size t' := by
  intro M
  induction M with
  | zero =>
    intro n gs a w sl t q hM h0 hL hP hG
    obtain rfl : n = 0 := by omega
    exact ⟨0, gs, a, w, sl, t, q, rfl, rfl, h0, hG w (atRel_refl w), hL, hP⟩
  | succ M ih =>
    intro n gs a w sl t q hM h0 hL hP hG
    cases n with
    | zero => exact ⟨0, gs, a, w, sl, t, q, rfl, rfl, h0, hG w (atRel_refl w), hL, hP⟩
    | succ n =>
      rcases hG with hstop | ⟨hrun, hstep⟩
      · exact ⟨0, gs, a, w, sl, t, q, rfl, rfl, h0, hstop w (atRel_refl w), hL, hP⟩
      have haw : ∀ g ∈ gs, awake g := by
        intro g hg
        obtain ⟨i, hi, rfl⟩ := Array.mem_iff_getElem.1 hg
        rcases Nat.eq_zero_or_pos i with rfl | hpos
        · have : gs[0] = a := by simpa [Array.getElem?_eq_getElem hi] using h0
          rw [this]; exact awake_of (.inl hrun)
        · exact awake_of ((hL.old i _ hpos (Array.getElem?_eq_getElem hi)).status.elim .inl fun x => .inr (.inr x))
      obtain ⟨i, g, d, sl', hi, hg, hst⟩ := crowd_pick (P := P) (w := w) (sl := sl) haw ⟨0, a, h0, hrun⟩
      rcases Nat.eq_zero_or_pos i with rfl | hpos
      · obtain rfl : g = a := by rw [h0] at hi; exact (Option.some.inj hi).symm
        have hs := hstep (w.at d) ⟨d, rfl⟩
        cases hgo : stepG P true g (w.at d) with
        | go a' w' es =>
          rw [hgo, goes_go] at hs
          obtain ⟨⟨hsize, hev⟩, hG'⟩ := hs
          have hrunT := runT_crowd_go (P := P) (sl := sl') (i := 0) hi (show stepG P (0 == 0) g (w.at d) = _ from hgo)
          have hsz : ((gs.map (woken P g a' w')).setIfInBounds 0 a').size = gs.size := by simp
          have hlt : 0 < gs.size := (Array.getElem?_eq_some_iff.1 h0).1
          have hP' : Past Shun w'.heap.size t := hP.mono hsize
          obtain ⟨N, gs', a'', w'', sl'', t', q', hr, hs', h0', hS, hL', hP'⟩ := ih n ((gs.map (woken P g a' w')).setIfInBounds 0 a') a' w' sl' (t ++ MemOp.ofEvents 0 g.frame.fn g.frame.place es) q (by rw [hsz]; omega) (by simp [hlt])
            ⟨fun j x hj hx => by
              have hne : 0 ≠ j := by omega
              rw [Array.getElem?_setIfInBounds_ne hne, Array.getElem?_map] at hx
              obtain ⟨y, hy, rfl⟩ := Option.map_eq_some_iff.1 hx
              have hq := hL.old j y hj hy
              rw [woken_quitsD hq, Deaf_other t (by omega) _ (fun op hop => by obtain ⟨e, _, rfl⟩ := Go.Conc.mem_ofEvents hop; rfl)]
              exact hq, fun j hj => by
              rw [Deaf_other t (g' := 0) (by simp at hj; omega) _ (fun op hop => by obtain ⟨e, _, rfl⟩ := Go.Conc.mem_ofEvents hop; rfl)]
              exact hL.above j (by simpa using hj)⟩
            (hP'.own hev) hG'
          exact ⟨N + 1, gs', a'', w'', sl'', t', q', by simp only [runNT, hst, hrunT]; exact hr, hs'.trans hsz, h0', hS, hL', hP'⟩
        | _ => rw [hgo] at hs; exact hs.elim
      · have hq := hL.old i g hpos hi
        have hi0 : (i == 0) = false := by simp; omega
        have hlt : i < gs.size := (Array.getElem?_eq_some_iff.1 hi).1
        cases hqi : q i with
        | zero => rw [hqi] at hq; rw [hq.1] at hg; cases hg
        | succ k =>
          rw [hqi] at hq
          rcases hq with ⟨hf, _⟩ | ⟨_, g', es, hm, hstp, hq'⟩
          · rw [hf] at hg; cases hg
          have hrunT := runT_crowd_go (P := P) (sl := sl') (i := i) hi (by rw [hi0]; exact hstp (w.at d))
          have hsz : ((gs.map (woken P g g' (w.at d))).setIfInBounds i g').size = gs.size := by simp
          have hsum : sumTo gs.size (upd q i k) + (k + 1) = sumTo gs.size q + k := by
            have := sumTo_upd q k id hlt
            simpa [hqi] using this
          obtain ⟨N, gs', a'', w'', sl'', t', q', hr, hs', h0', hS, hL', hP'⟩ := ih (n + 1) ((gs.map (woken P g g' (w.at d))).setIfInBounds i g') a (w.at d) sl' (t ++ MemOp.ofEvents i g.frame.fn g.frame.place es) (upd q i k) (by rw [hsz]; omega)
            (by
              have hne : i ≠ 0 := by omega
              rw [Array.getElem?_setIfInBounds_ne hne, Array.getElem?_map, h0]
              simp [woken_run hrun])
            ⟨fun j x hj hx => by
              by_cases hji : i = j
              · subst hji
                rw [Array.getElem?_setIfInBounds_self_of_lt (by simpa using hlt)] at hx
                obtain rfl := Option.some.inj hx
                rw [upd_same, Deaf_own]
                exact hq'
              · rw [Array.getElem?_setIfInBounds_ne hji, Array.getElem?_map] at hx
                obtain ⟨y, hy, rfl⟩ := Option.map_eq_some_iff.1 hx
                have hqj := hL.old j y hj hy
                rw [woken_quitsD hqj, upd_ne q k (Ne.symm hji), Deaf_other t hji _ (fun op hop => by obtain ⟨e, _, rfl⟩ := Go.Conc.mem_ofEvents hop; rfl)]
                exact hqj, fun j hj => by
              rw [Deaf_other t (g' := i) (by simp at hj; omega) _ (fun op hop => by obtain ⟨e, _, rfl⟩ := Go.Conc.mem_ofEvents hop; rfl)]
              exact hL.above j (by simpa using hj)⟩
            (hP.mute (by omega) hm) (Goes.rely atRel_trans (.inr ⟨hrun, hstep⟩) ⟨d, rfl⟩)
          exact ⟨N + 1, gs', a'', w'', sl'', t', q', by simp only [runNT, hst, hrunT]; exact hr, hs'.trans hsz, h0', hS, hL', hP'⟩

/-! ### its operations on memory -/
variable {n : Nat} {w : World} {b : Frame} {a : Act} {kk : List Item} {cs : List Frame} {ops : Array Oper} {i : Nat} {rest : List Nat} {o : Oper} {x y : Operand} {ad : Addr}
theorem block_lt {w : World} {ad : Addr} {v : Value} (h : w.cell? ad = some v) : ad.block < w.heap.size := World.block_lt_of_cell? w ad h
/-- An operation that yields v and turns the world into w'. -/
theorem LG.opV {v : Value} {w' : World} (ho : ops[i]? = some o) (hw : Region.wanted o (yielded ops a.tmps) = true) (hk : b.kind ≠ .early)
    (hr : ∀ d, (execOp a.eval o).run Try.prog (w.at d) = .ok (.value v) (w'.at d)) (he : ∀ d, ∀ e ∈ listed Try.prog b.fn a o (w.at d), EvL Shun w'.heap.size e) (hs : w.heap.size ≤ w'.heap.size)
    (k : Goes Try.prog true AtRel (DL Shun) Stop n (G (b.at (a.put o.dst v) (.inRegion ops rest :: kk)) cs) w') : Goes Try.prog true AtRel (DL Shun) Stop (n + 1) (G (b.at a (.inRegion ops (i :: rest) :: kk)) cs) w :=
  Goes.step rfl fun w₁ r => by
    obtain ⟨d, rfl⟩ := r
    rw [stepG_value ho hw hk (hr d)]
    exact ⟨⟨hs, he d⟩, Goes.rely atRel_trans k ⟨d, rfl⟩⟩
theorem LG.opN {w' : World} (ho : ops[i]? = some o) (hw : Region.wanted o (yielded ops a.tmps) = true) (hk : b.kind ≠ .early)
    (hr : ∀ d, (execOp a.eval o).run Try.prog (w.at d) = .ok .skip (w'.at d)) (he : ∀ d, ∀ e ∈ listed Try.prog b.fn a o (w.at d), EvL Shun w'.heap.size e) (hs : w.heap.size ≤ w'.heap.size)
    (k : Goes Try.prog true AtRel (DL Shun) Stop n (G (b.at (a.put o.dst undef) (.inRegion ops rest :: kk)) cs) w') : Goes Try.prog true AtRel (DL Shun) Stop (n + 1) (G (b.at a (.inRegion ops (i :: rest) :: kk)) cs) w :=
  Goes.step rfl fun w₁ r => by
    obtain ⟨d, rfl⟩ := r
    rw [stepG_none ho hw hk (hr d)]
    exact ⟨⟨hs, he d⟩, Goes.rely atRel_trans k ⟨d, rfl⟩⟩
/-- A load. -/
theorem LG.ld (t : TypeId) (ht : t = 3 ∨ t = 9 ∨ t = 23 ∨ t = 24 ∨ t = 26 ∨ t = 41 ∨ t = 50) {v : Value} (ho : ops[i]? = some o) (hw : Region.wanted o (yielded ops a.tmps) = true) (hk : b.kind ≠ .early) (hop : o.op = .load t x) (hx : a.eval x = .pointer (some ad))
    (hc : w.cell? ad = some v) (hs : ¬ Shun (.cell ad))
    (k : Goes Try.prog true AtRel (DL Shun) Stop n (G (b.at (a.put o.dst v) (.inRegion ops rest :: kk)) cs) w) : Goes Try.prog true AtRel (DL Shun) Stop (n + 1) (G (b.at a (.inRegion ops (i :: rest) :: kk)) cs) w := by
  refine LG.opV ho hw hk (fun d => (ld_run (w := w.at d) t ht hop hx hc).1) (fun d e he => ?_) (Nat.le_refl _) k
  have hm := mem_listed he
  rw [(ld_run (w := w.at d) t ht hop hx hc).2] at hm
  simp at hm
  subst hm
  exact evL_cell ad false hs (block_lt hc)
theorem ld4_run {v : Value} (hop : o.op = .load 4 x) (hx : a.eval x = .pointer (some ad)) (hc : w.cell? ad = some v) :
    (execOp a.eval o).run Try.prog w = .ok (.value v) w ∧ (execOp a.eval o).events Try.prog w #[] = #[⟨.cell ad, false, false⟩] := by
  constructor
  · unfold execOp
    simp only [hop, hx]
    simp [go_sem, hc]
  · unfold execOp
    simp only [hop, hx]
    simp [go_sem, hc]
theorem LG.ld4 {v : Value} (ho : ops[i]? = some o) (hw : Region.wanted o (yielded ops a.tmps) = true) (hk : b.kind ≠ .early) (hop : o.op = .load 4 x) (hx : a.eval x = .pointer (some ad))
    (hc : w.cell? ad = some v) (hs : ¬ Shun (.cell ad))
    (k : Goes Try.prog true AtRel (DL Shun) Stop n (G (b.at (a.put o.dst v) (.inRegion ops rest :: kk)) cs) w) : Goes Try.prog true AtRel (DL Shun) Stop (n + 1) (G (b.at a (.inRegion ops (i :: rest) :: kk)) cs) w := by
  refine LG.opV ho hw hk (fun d => (ld4_run (w := w.at d) hop hx hc).1) (fun d e he => ?_) (Nat.le_refl _) k
  have hm := mem_listed he
  rw [(ld4_run (w := w.at d) hop hx hc).2] at hm
  simp at hm
  subst hm
  exact evL_cell ad false hs (block_lt hc)
/-- A new block. -/
theorem LG.new {v : Value} {ob : Obj} (ho : ops[i]? = some o) (hw : Region.wanted o (yielded ops a.tmps) = true) (hk : b.kind ≠ .early)
    (h : ∀ d, (execOp a.eval o).run Try.prog (w.at d) = .ok (.value v) ((w.at d).alloc ob) ∧ (execOp a.eval o).events Try.prog (w.at d) #[] = #[])
    (k : Goes Try.prog true AtRel (DL Shun) Stop n (G (b.at (a.put o.dst v) (.inRegion ops rest :: kk)) cs) (w.alloc ob)) : Goes Try.prog true AtRel (DL Shun) Stop (n + 1) (G (b.at a (.inRegion ops (i :: rest) :: kk)) cs) w := by
  refine LG.opV ho hw hk (fun d => (h d).1) (fun d e he => ?_) (by rw [alloc_size]; omega) k
  have hm := mem_listed he
  rw [(h d).2] at hm
  simp at hm
theorem setCell_size (w : World) (ad : Addr) (v : Value) : (w.setCell ad v).heap.size = w.heap.size := (aside_setCell w ad v).size
theorem st_slice (t : TypeId) (ht : t = 23 ∨ t = 26 ∨ t = 50) {v u : Value} (hv : ∃ p l c, v = .slice p l c) (hop : o.op = .store t x y) (hx : a.eval x = .pointer (some ad)) (hy : a.eval y = v) (hc : w.cell? ad = some u) (hf : w.frozen? ad = false) :
    (execOp a.eval o).run Try.prog w = .ok .skip (w.setCell ad v) ∧ (execOp a.eval o).events Try.prog w #[] = #[⟨.cell ad, true, false⟩] := by
  obtain ⟨p, l, c, rfl⟩ := hv
  constructor
  · unfold execOp
    simp only [hop, hx, hy]
    rcases ht with rfl | rfl | rfl <;> simp [go_sem, hc, hf]
  · unfold execOp
    simp only [hop, hx, hy]
    have e : (store ad (.slice p l c) .plain).events Try.prog w #[] = storedEv Try.prog w #[] ad (.slice p l c) .plain := events_store Try.prog w #[] ad _ _ rfl
    rcases ht with rfl | rfl | rfl <;> simp [go_sem, e, storedEv, hc, hf]
/-- A store. -/
theorem LG.st {v u : Value} (ho : ops[i]? = some o) (hw : Region.wanted o (yielded ops a.tmps) = true) (hk : b.kind ≠ .early)
    (h : ∀ w : World, w.cell? ad = some u → w.frozen? ad = false → (execOp a.eval o).run Try.prog w = .ok .skip (w.setCell ad v) ∧ (execOp a.eval o).events Try.prog w #[] = #[⟨.cell ad, true, false⟩])
    (hc : w.cell? ad = some u) (hf : w.frozen? ad = false) (hs : ¬ Shun (.cell ad))
    (k : Goes Try.prog true AtRel (DL Shun) Stop n (G (b.at (a.put o.dst undef) (.inRegion ops rest :: kk)) cs) (w.setCell ad v)) : Goes Try.prog true AtRel (DL Shun) Stop (n + 1) (G (b.at a (.inRegion ops (i :: rest) :: kk)) cs) w := by
  refine LG.opN (w' := w.setCell ad v) ho hw hk (fun d => (h (w.at d) hc hf).1) (fun d e he => ?_) (Nat.le_of_eq (setCell_size _ _ _).symm) k
  have hm := mem_listed he
  rw [(h (w.at d) hc hf).2] at hm
  simp at hm
  subst hm
  exact evL_cell ad true hs (by rw [setCell_size]; exact block_lt hc)
end
end Go.Proofs.Ytnlopklbbajlbaa.Sw

set_option linter.unusedVariables false
set_option linter.unusedSimpArgs false
set_option maxRecDepth 100000
namespace Go.Proofs.Ytnlopklbbajlbaa.Sw
open Go Go.Conc Go.ConcN Go.RowKit
open Go.ConcR (DC0 stA smA)

theorem u23 : Try.prog.underlying 23 = some (.slice 3) := by kernel_rfl
theorem u26 : Try.prog.underlying 26 = some (.slice 9) := by kernel_rfl
theorem u50 : Try.prog.underlying 50 = some (.slice 4) := by kernel_rfl
noncomputable def info3 : TypeInfo := (Try.prog.info? 3).getD default
noncomputable def info4 : TypeInfo := (Try.prog.info? 4).getD default
noncomputable def info9 : TypeInfo := (Try.prog.info? 9).getD default
theorem i3 : Try.prog.info? 3 = some info3 := by kernel_rfl
theorem i4 : Try.prog.info? 4 = some info4 := by kernel_rfl
theorem i9 : Try.prog.info? 9 = some info9 := by kernel_rfl
theorem i3z : info3.zero = some (.int .i64 0) := by kernel_rfl
theorem i4z : info4.zero = some (.bool false) := by kernel_rfl
theorem i9z : info9.zero = some (.string ⟨#[]⟩) := by kernel_rfl
theorem i3s : info3.size = 1 := by kernel_rfl
theorem i4s : info4.size = 1 := by kernel_rfl
theorem i9s : info9.size = 1 := by kernel_rfl
theorem i3b : info3.bytes = 8 := by kernel_rfl
theorem i4b : info4.bytes = 1 := by kernel_rfl
theorem i9b : info9.bytes = 16 := by kernel_rfl

/-- Whether a name is among these. -/
noncomputable def memB (nm : ByteArray) (con : List ByteArray) : Bool := @decide (nm ∈ con) (Classical.propDecidable _)
theorem memB_true {nm : ByteArray} {con : List ByteArray} : memB nm con = true ↔ nm ∈ con := by unfold memB; exact @decide_eq_true_iff _ (Classical.propDecidable _)
theorem memB_false {nm : ByteArray} {con : List ByteArray} : memB nm con = false ↔ nm ∉ con := by unfold memB; exact @decide_eq_false_iff_not _ (Classical.propDecidable _)
section
variable {Shun : Loc → Prop} {Stop : Goroutine → World → Prop} {n : Nat} {w : World} {b : Frame} {a : Act} {kk : List Item} {cs : List Frame} {ops : Array Oper} {i : Nat} {rest : List Nat} {o : Oper} {x y z : Operand} {ad : Addr}
theorem evL_obj (r : Nat) (wr : Bool) (hS : ¬ Shun (.obj r)) {B : Nat} (hB : r < B) : EvL Shun B ⟨.obj r, wr, false⟩ := by
  refine ⟨fun x hx hs => ?_, by simp, by simp, ?_⟩
  · simp only [MemAct.ofEvent, MemAct.touch?, Option.some.injEq] at hx
    subst hx
    exact absurd hs hS
  · cases wr <;> exact hB
theorem evL_loc {ev : Event} (he : ev.loc = .cell ad) (hS : ¬ Shun (.cell ad)) {B : Nat} (hB : ad.block < B) : EvL Shun B ev := by
  obtain ⟨l, wr, sy⟩ := ev
  simp only at he
  subst he
  refine ⟨fun x hx hs => ?_, by simp, by simp, ?_⟩
  · simp only [ofEvent_cell0, MemAct.touch?, Option.some.injEq] at hx
    subst hx
    exact absurd hs hS
  · rw [ofEvent_cell0]; exact hB
theorem evL_room {m : Mark} (hm : Neutral m) (B : Nat) : EvL Shun B ⟨.mark m, false, true⟩ := by
  unfold Neutral at hm
  subst hm
  exact ⟨fun x hx _ => by simp [MemAct.ofEvent, MemAct.touch?] at hx, by simp, by simp, by simp [MemAct.ofEvent, MemAct.low]⟩
theorem bs3_run {v : Int} {w : World} {t : Tmp} (hop : o.op = .buildSlice 23 1 #[(0, .tmp t)]) (hx : a.eval (.tmp t) = .int .i64 v) :
    (execOp a.eval o).run Try.prog w = .ok (.value (.slice (some ⟨w.heap.size, 0, none⟩) 1 1)) (w.alloc (.cells #[.int .i64 v] 3)) ∧ (execOp a.eval o).events Try.prog w #[] = #[] := by
  simp only [Act.eval, Array.getD_eq_getD_getElem?] at hx
  constructor
  · unfold execOp
    simp only [hop]
    simp [go_sem, hx]
  · unfold execOp
    simp only [hop]
    simp [go_sem, hx]
theorem bs9_run {v : ByteArray} {w : World} {t : Tmp} (hop : o.op = .buildSlice 26 1 #[(0, .tmp t)]) (hx : a.eval (.tmp t) = .string v) :
    (execOp a.eval o).run Try.prog w = .ok (.value (.slice (some ⟨w.heap.size, 0, none⟩) 1 1)) (w.alloc (.cells #[.string v] 9)) ∧ (execOp a.eval o).events Try.prog w #[] = #[] := by
  simp only [Act.eval, Array.getD_eq_getD_getElem?] at hx
  constructor
  · unfold execOp
    simp only [hop]
    simp [go_sem, hx]
  · unfold execOp
    simp only [hop]
    simp [go_sem, hx]
theorem LG.bs3 {v : Int} {t : Tmp} (ho : ops[i]? = some o) (hw : Region.wanted o (yielded ops a.tmps) = true) (hk : b.kind ≠ .early) (hop : o.op = .buildSlice 23 1 #[(0, .tmp t)]) (hx : a.eval (.tmp t) = .int .i64 v)
    (k : Goes Try.prog true AtRel (DL Shun) Stop n (G (b.at (a.put o.dst (.slice (some ⟨w.heap.size, 0, none⟩) 1 1)) (.inRegion ops rest :: kk)) cs) (w.alloc (.cells #[.int .i64 v] 3))) : Goes Try.prog true AtRel (DL Shun) Stop (n + 1) (G (b.at a (.inRegion ops (i :: rest) :: kk)) cs) w :=
  LG.new (v := .slice (some ⟨w.heap.size, 0, none⟩) 1 1) ho hw hk (fun d => bs3_run hop hx) k
theorem LG.bs9 {v : ByteArray} {t : Tmp} (ho : ops[i]? = some o) (hw : Region.wanted o (yielded ops a.tmps) = true) (hk : b.kind ≠ .early) (hop : o.op = .buildSlice 26 1 #[(0, .tmp t)]) (hx : a.eval (.tmp t) = .string v)
    (k : Goes Try.prog true AtRel (DL Shun) Stop n (G (b.at (a.put o.dst (.slice (some ⟨w.heap.size, 0, none⟩) 1 1)) (.inRegion ops rest :: kk)) cs) (w.alloc (.cells #[.string v] 9))) : Goes Try.prog true AtRel (DL Shun) Stop (n + 1) (G (b.at a (.inRegion ops (i :: rest) :: kk)) cs) w :=
  LG.new (v := .slice (some ⟨w.heap.size, 0, none⟩) 1 1) ho hw hk (fun d => bs9_run hop hx) k
theorem box_run' (t : TypeId) (ht : t = 3 ∨ t = 24 ∨ t = 26) {v : Value} {w : World} (hv : (∃ x, v = .int .i64 x) ∨ (∃ x, v = .pointer x) ∨ (∃ p l c, v = .slice p l c)) (hop : o.op = .box t x) (hx : a.eval x = v) :
    (execOp a.eval o).run Try.prog w = .ok (.value (.pointer (some ⟨w.heap.size, 0, none⟩))) (w.alloc (.cells #[v] t)) ∧ (execOp a.eval o).events Try.prog w #[] = #[] := by
  constructor
  · unfold execOp
    simp only [hop, hx]
    rcases hv with ⟨x, rfl⟩ | ⟨x, rfl⟩ | ⟨p, l, c, rfl⟩ <;> rcases ht with rfl | rfl | rfl <;> simp [go_sem]
  · unfold execOp
    simp only [hop, hx]
    rcases hv with ⟨x, rfl⟩ | ⟨x, rfl⟩ | ⟨p, l, c, rfl⟩ <;> rcases ht with rfl | rfl | rfl <;> simp [go_sem]
theorem LG.box (t : TypeId) (ht : t = 3 ∨ t = 24 ∨ t = 26) {v : Value} (hv : (∃ x, v = .int .i64 x) ∨ (∃ x, v = .pointer x) ∨ (∃ p l c, v = .slice p l c)) (ho : ops[i]? = some o) (hw : Region.wanted o (yielded ops a.tmps) = true) (hk : b.kind ≠ .early) (hop : o.op = .box t x) (hx : a.eval x = v)
    (k : Goes Try.prog true AtRel (DL Shun) Stop n (G (b.at (a.put o.dst (.pointer (some ⟨w.heap.size, 0, none⟩))) (.inRegion ops rest :: kk)) cs) (w.alloc (.cells #[v] t))) : Goes Try.prog true AtRel (DL Shun) Stop (n + 1) (G (b.at a (.inRegion ops (i :: rest) :: kk)) cs) w :=
  LG.new (v := .pointer (some ⟨w.heap.size, 0, none⟩)) ho hw hk (fun d => box_run' t ht hv hop hx) k
theorem LG.mm (ho : ops[i]? = some o) (hw : Region.wanted o (yielded ops a.tmps) = true) (hk : b.kind ≠ .early) (hop : o.op = .makeMap 41 none)
    (k : Goes Try.prog true AtRel (DL Shun) Stop n (G (b.at (a.put o.dst (.map (some w.heap.size))) (.inRegion ops rest :: kk)) cs) (w.alloc (.map #[] 0))) : Goes Try.prog true AtRel (DL Shun) Stop (n + 1) (G (b.at a (.inRegion ops (i :: rest) :: kk)) cs) w :=
  LG.new (v := .map (some w.heap.size)) ho hw hk (fun d => mm_run hop) k
theorem al_run (t : TypeId) (z : Array Value) (ht : (t = 3 ∧ z = #[.int .i64 0]) ∨ (t = 23 ∧ z = #[.slice none 0 0]) ∨ (t = 50 ∧ z = #[.slice none 0 0]) ∨ (t = 55 ∧ z = #[.int .u64 0, .int .u32 0])) {w : World} (hop : o.op = .alloc t) :
    (execOp a.eval o).run Try.prog w = .ok (.value (.pointer (some ⟨w.heap.size, 0, none⟩))) (w.alloc (.cells z t)) ∧ (execOp a.eval o).events Try.prog w #[] = #[] := by
  constructor
  · unfold execOp
    simp only [hop]
    rcases ht with ⟨rfl, rfl⟩ | ⟨rfl, rfl⟩ | ⟨rfl, rfl⟩ | ⟨rfl, rfl⟩ <;> simp [go_sem]
  · unfold execOp
    simp only [hop]
    rcases ht with ⟨rfl, rfl⟩ | ⟨rfl, rfl⟩ | ⟨rfl, rfl⟩ | ⟨rfl, rfl⟩ <;> simp [go_sem]
theorem LG.al (t : TypeId) (z : Array Value) (ht : (t = 3 ∧ z = #[.int .i64 0]) ∨ (t = 23 ∧ z = #[.slice none 0 0]) ∨ (t = 50 ∧ z = #[.slice none 0 0]) ∨ (t = 55 ∧ z = #[.int .u64 0, .int .u32 0])) (ho : ops[i]? = some o) (hw : Region.wanted o (yielded ops a.tmps) = true) (hk : b.kind ≠ .early) (hop : o.op = .alloc t)
    (k : Goes Try.prog true AtRel (DL Shun) Stop n (G (b.at (a.put o.dst (.pointer (some ⟨w.heap.size, 0, none⟩))) (.inRegion ops rest :: kk)) cs) (w.alloc (.cells z t))) : Goes Try.prog true AtRel (DL Shun) Stop (n + 1) (G (b.at a (.inRegion ops (i :: rest) :: kk)) cs) w :=
  LG.new (v := .pointer (some ⟨w.heap.size, 0, none⟩)) ho hw hk (fun d => al_run t z ht hop) k
theorem LG.mk50 {l : Nat} (ho : ops[i]? = some o) (hw : Region.wanted o (yielded ops a.tmps) = true) (hk : b.kind ≠ .early) (hop : o.op = .makeSlice 50 x y) (hx : a.eval x = .int .i64 (l : Int)) (hy : a.eval y = .int .i64 (l : Int)) (hl : l ≤ 1073741824)
    (k : Goes Try.prog true AtRel (DL Shun) Stop n (G (b.at (a.put o.dst (.slice (some ⟨w.heap.size, 0, none⟩) l l)) (.inRegion ops rest :: kk)) cs) (w.alloc (.cells (madeCells (Value.bool false).cells l) 4))) : Goes Try.prog true AtRel (DL Shun) Stop (n + 1) (G (b.at a (.inRegion ops (i :: rest) :: kk)) cs) w := by
  refine LG.new (v := .slice (some ⟨w.heap.size, 0, none⟩) l l) ho hw hk (fun d => ⟨?_, ?_⟩) k
  · have h := run_make (P := Try.prog) (w := w.at d) 50 4 info4 (.bool false) u50 i4 i4z .i64 .i64 (l : Int) (l : Int) (by omega) (by omega) (by rw [i4b]; omega) (by omega)
    rw [i4s] at h
    simp only [Int.toNat_natCast, Nat.mul_one] at h
    unfold execOp
    simp only [hop, hx, hy, Sem.run_bind, h]
    rfl
  · have h := events_make (P := Try.prog) (w.at d) 50 4 info4 (.bool false) u50 i4 i4z .i64 .i64 (l : Int) (l : Int) (by omega) (by omega) (by rw [i4b]; omega) (by omega) (by rw [i4b]; simp; omega) #[]
    unfold execOp
    simp only [hop, hx, hy, Sem.events_bind, h]
    cases (Instr.makeSlice 50 (.int .i64 (l : Int)) (.int .i64 (l : Int))).run Try.prog (w.at d) <;> simp
/-- A lookup in a map of its own. -/
theorem LG.lk {r ck : Nat} {es : Array MapEntry} {con : List ByteArray} {nm : ByteArray} (ho : ops[i]? = some o) (hw : Region.wanted o (yielded ops a.tmps) = true) (hk : b.kind ≠ .early) (hop : o.op = .lookup 41 x y true) (hx : a.eval x = .map (some r)) (hy : a.eval y = .string nm)
    (hb : w.heap[r]? = some (.map es ck)) (hks : es.toList.map (·.key) = con.map Value.string) (hs : ¬ Shun (.obj r))
    (k : ∀ v, Goes Try.prog true AtRel (DL Shun) Stop n (G (b.at (a.put o.dst (.tuple #[v, .bool (memB nm con)])) (.inRegion ops rest :: kk)) cs) w) : Goes Try.prog true AtRel (DL Shun) Stop (n + 1) (G (b.at a (.inRegion ops (i :: rest) :: kk)) cs) w := by
  have hlk := fun d => lk_run (w := w.at d) hop hx hy hb hks
  have e : lkB es nm = memB nm con := by
    have h1 := lkB_iff (nm := nm) hks
    rcases h : memB nm con with _ | _
    · rcases hh : lkB es nm with _ | _
      · rfl
      · exact absurd (h1.1 hh) (memB_false.1 h)
    · exact h1.2 (memB_true.1 h)
  refine LG.opV ho hw hk (fun d => (hlk d).1) (fun d ev he => ?_) (Nat.le_refl _) (by rw [e]; exact k _)
  have hm := mem_listed he
  rw [(hlk d).2] at hm
  simp at hm
  subst hm
  exact evL_obj r false hs (Array.getElem?_eq_some_iff.1 hb).1
/-- A new name in it. -/
theorem LG.mu {r ck : Nat} {es : Array MapEntry} {con : List ByteArray} {nm : ByteArray} {v : Value} (ho : ops[i]? = some o) (hw : Region.wanted o (yielded ops a.tmps) = true) (hk : b.kind ≠ .early) (hop : o.op = .mapUpdate 41 x y z) (hx : a.eval x = .map (some r)) (hy : a.eval y = .string nm) (hz : a.eval z = v)
    (hb : w.heap[r]? = some (.map es ck)) (hks : es.toList.map (·.key) = con.map Value.string) (hn : nm ∉ con) (hs : ¬ Shun (.obj r))
    (k : Goes Try.prog true AtRel (DL Shun) Stop n (G (b.at (a.put o.dst undef) (.inRegion ops rest :: kk)) cs) { w with heap := w.heap.setIfInBounds r (.map (es.push { key := .string nm, val := v, born := ck }) (ck + 1)) }) : Goes Try.prog true AtRel (DL Shun) Stop (n + 1) (G (b.at a (.inRegion ops (i :: rest) :: kk)) cs) w := by
  have hmu := fun d => mu_run (w := w.at d) hop hx hy hz hb hks hn
  refine LG.opN (w' := { w with heap := w.heap.setIfInBounds r (.map (es.push { key := .string nm, val := v, born := ck }) (ck + 1)) }) ho hw hk (fun d => (hmu d).1) (fun d ev he => ?_) (by simp) k
  obtain ⟨bb, rfl⟩ := (hmu d).2 ev (mem_listed he)
  exact evL_obj r bb hs (by simpa using (Array.getElem?_eq_some_iff.1 hb).1)
/-- ████ append ████ of one value that lies in a block, onto a row of its own. -/
theorem LG.app (t e : TypeId) (inf : TypeInfo) (zv : Value) (bytes base : Nat) (ht : Try.prog.underlying t = some (.slice e)) (hi : Try.prog.info? e = some inf) (hz0 : inf.zero = some zv) (hsize : inf.size = 1) (hby : inf.bytes = bytes) (hzs : zv.cells.size = 1)
    {v u : Value} {g c m : Nat} {xs : List Value} (ho : ops[i]? = some o) (hw : Region.wanted o (yielded ops a.tmps) = true) (hk : b.kind ≠ .early) (hop : o.op = .call { callee := .builtin .append, args := #[x, y], argTypes := #[t, t] }) (hx : a.eval x = v) (hy : a.eval y = .slice (some ⟨g, 0, none⟩) 1 c)
    (hown : w.ownsRow base e 1 v m xs) (hc : w.cell? ⟨g, 0, none⟩ = some u) (hu : u.oneCell' = true) (h63 : m + 1 ≤ maxLen) (hbytes : (m + 1) * bytes ≤ 140737488355328) (hbase : base ≤ w.heap.size)
    (hs1 : ∀ ad : Addr, ad.block = g → ¬ Shun (.cell ad)) (hs2 : ∀ ad : Addr, base ≤ ad.block → ¬ Shun (.cell ad))
    (k : ∀ v' w', w'.ownsRow base e 1 v' (m + 1) (xs ++ [u]) → w.grownBy w' v.ownBlock → Goes Try.prog true AtRel (DL Shun) Stop n (G (b.at (a.put o.dst v') (.inRegion ops rest :: kk)) cs) w') :
    Goes Try.prog true AtRel (DL Shun) Stop (n + 1) (G (b.at a (.inRegion ops (i :: rest) :: kk)) cs) w := by
  refine Goes.step rfl fun w₁ r => ?_
  obtain ⟨d, rfl⟩ := r
  have hnews : ∀ (j : Nat) (u' : Value), [u][j]? = some u' → (w.at d).cell? ((⟨g, 0, none⟩ : Addr).add j) = some u' := fun j u' h => by
    cases j with
    | zero => simp at h; subst h; exact hc
    | succ j => simp at h
  have h1 : ∀ u' ∈ [u], u'.oneCell' = true := by simp [hu]
  obtain ⟨v', w', hrun, hown', hgr, _⟩ := run_append_own (P := Try.prog) (w := w.at d) base t o.type e inf zv 1 bytes ht hi hz0 hsize hby hzs (by omega) v m xs hown ⟨g, 0, none⟩ 1 c [u] rfl hnews h1 h63 hbytes hbase
  have hev := events_append_where (P := Try.prog) (w.at d) base t o.type e inf zv 1 bytes ht hi hz0 hsize hby v m xs hown ⟨g, 0, none⟩ 1 c [u] rfl hnews h1 h63 hbytes
  have hr : (execOp a.eval o).run Try.prog (w.at d) = .ok (.value v') w' := by
    unfold execOp
    simp only [hop, resolve, invoke, builtin, Sem.run_bind, Sem.run_pure, Result.andThen_ok, List.map_toArray, List.map_cons, List.map_nil, hx, hy, hrun]
  rw [stepG_value ho hw hk hr]
  have hgr' : w.grownBy w' v.ownBlock := ⟨hgr.os, hgr.tape, hgr.output, hgr.size, hgr.block⟩
  refine ⟨⟨hgr'.size, fun ev he => ?_⟩, k v' w' hown' hgr'⟩
  have hm := mem_listed he
  rw [events_append_op x y t hop hx hy] at hm
  rcases hev ev hm with ⟨ad, h2, h3⟩ | ⟨mk, rfl, h3⟩
  · rcases h3 with ⟨_, h3⟩ | h3
    · have := block_lt hc
      have := hgr'.size
      exact evL_loc h2 (hs1 ad h3) (by simp only at *; omega)
    · obtain ⟨l1, l2⟩ := hown.lt ad.block h3.symm
      have := hgr'.size
      exact evL_loc h2 (hs2 ad l1) (by omega)
  · exact evL_room h3 _
end
end Go.Proofs.Ytnlopklbbajlbaa.Sw
