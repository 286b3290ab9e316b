/- Rows of words copied; slices of them; pointers to them held against each other. -/
import Derived.Test.YtmkdcnemocdefaaGreatFmtVecP
import Derived.Lib.SlBuf
import Derived.Lib.Builder
import Derived.Laws.IdiomCopy
import Derived.Deep.RegionLaw
namespace Go.Proofs.YtmkdcnemocdefaaGreatFmt
open Go.RowKit

/-- The words of a row, as cells. -/
def wl (x : Nat → Nat) (k m : Nat) : List Value := (List.range' k m).map fun j => .int .u64 (x j : Int)
theorem wl_len (x : Nat → Nat) (k m : Nat) : (wl x k m).length = m := by simp [wl]
theorem wl_get (x : Nat → Nat) (k m j : Nat) (v : Value) (h : (wl x k m)[j]? = some v) : j < m ∧ v = .int .u64 (x (k + j) : Int) := by
  have l : j < m := by
    rcases Nat.lt_or_ge j m with g | g
    · exact g
    · rw [List.getElem?_eq_none (by rw [wl_len]; exact g)] at h; cases h
  refine ⟨l, ?_⟩
  unfold wl at h
  simp [l] at h
  exact h.symm
theorem put_cons (f : Nat → Nat) (o k m : Nat) (x : Nat → Nat) : put (upd f o (x k)) (o + 1) m (fun j => x (k + 1 + j)) = put f o (m + 1) (fun j => x (k + j)) := by
  funext j
  unfold put upd
  by_cases a : j = o
  · subst a
    rw [if_neg (by omega), if_pos rfl, if_pos ⟨by omega, by omega⟩]
    congr 1; omega
  · by_cases b : o + 1 ≤ j ∧ j < o + 1 + m
    · rw [if_pos b, if_pos ⟨by omega, by omega⟩]
      show x (k + 1 + (j - (o + 1))) = x (k + (j - o))
      congr 1; omega
    · rw [if_neg b, if_neg a, if_neg (by omega)]
theorem Blk.setCells {C g : Nat} (x : Nat → Nat) : ∀ (m k o : Nat) (w : World) (f : Nat → Nat), Blk w g C f → Blk (w.setCells g o (wl x k m)) g C (Proofs.YtmkdcnemocdefaaGreatFmt.put f o m (fun j => x (k + j))) ∧ Only w (w.setCells g o (wl x k m)) g
  | 0, k, o, w, f, h => by
    rw [put_none]
    exact ⟨h, Only.refl _ _⟩
  | m + 1, k, o, w, f, h => by
    have e : wl x k (m + 1) = .int .u64 (x k : Int) :: wl x (k + 1) m := by simp [wl, List.range'_succ]
    rw [e, World.setCells, ← put_cons]
    have i := Blk.setCells x m (k + 1) (o + 1) _ _ (h.set o (x k))
    exact ⟨i.1, ((Only.refl w g).set o (.int .u64 (x k : Int))).trans i.2⟩
theorem info_wsize : (Tryz.prog.info? 71).map (fun i => i.size) = some 1 := by kernel_rfl
/-- copy: all is read before anything is written. -/
theorem copy_words (T : TypeId) (hT : Tryz.prog.underlying T = some (.slice 71)) (ty : TypeId) (gz oz dLen dCap gx ox sLen sCap m C : Nat) (x f : Nat → Nat) (w : World) (hz : Blk w gz C f) (hx : WR w gx ox m x) (hm : m = Nat.min sLen dLen) (hC : oz + m ≤ C) :
    ∃ w', (Builtin.copy_ #[T, T] ty #[.slice (some ⟨gz, oz, none⟩) dLen dCap, .slice (some ⟨gx, ox, none⟩) sLen sCap]).run Tryz.prog w = .ok (.int .i64 (m : Int)) w' ∧ Blk w' gz C (put f oz m x) ∧ Only w w' gz := by
  have b := Blk.setCells (C := C) (g := gz) x m 0 oz w f hz
  have e : (fun j => x (0 + j)) = x := by funext j; rw [Nat.zero_add]
  rw [e] at b
  refine ⟨_, ?_, b.1, b.2⟩
  have r := run_copy_cells (P := Tryz.prog) w T T ty 71 gz oz dLen dCap ⟨gx, ox, none⟩ sLen sCap (wl x 0 m) hT info_wsize (by rw [wl_len]; exact hm)
    (fun j v hj => by
      obtain ⟨a, rfl⟩ := wl_get x 0 m j v hj
      rw [Nat.zero_add, show (⟨gx, ox, none⟩ : Addr).add j = ⟨gx, ox + j, none⟩ by unfold Addr.add; split <;> simp_all]
      exact hx j a)
    (fun j hj => by rw [wl_len] at hj; rw [hz.cell (oz + j) (by omega)]; rfl)
    (fun j _ => hz.frozen _)
    (fun v hv => by
      obtain ⟨j, hj⟩ := List.mem_iff_getElem?.1 hv
      obtain ⟨_, rfl⟩ := wl_get x 0 m j v hj
      rfl)
  rw [r, wl_len]
  rfl
/-- Nothing to copy. -/
theorem copy_nought (T : TypeId) (hT : Tryz.prog.underlying T = some (.slice 71)) (ty : TypeId) (d a : Option Addr) (dLen dCap sLen sCap : Nat) (w : World) (hm : Nat.min sLen dLen = 0) :
    (Builtin.copy_ #[T, T] ty #[.slice d dLen dCap, .slice a sLen sCap]).run Tryz.prog w = .ok (.int .i64 0) w := by
  have r := run_copy_none (P := Tryz.prog) w T T ty 71 d a dLen dCap sLen sCap hT info_wsize hm
  rw [r]
  rfl
/-- A row from a place on. -/
theorem slice_fromK (kk : IntKind) (T : TypeId) (hT : Tryz.prog.underlying T = some (.slice 71)) (b o len cap l : Nat) (h1 : l ≤ len) :
    ∃ a' : Addr, (l < cap → a' = ⟨b, o + l, none⟩) ∧ ∀ W, (Instr.slice T (.slice (some ⟨b, o, none⟩) len cap) (some (.int kk (l : Int))) none none).run Tryz.prog W = .ok (.slice (some a') (len - l) (cap - l)) W := by
  have he : Tryz.prog.elem T = 71 := by simp [Program.elem, hT]
  have ht' : Tryz.prog.underlying T = some (.slice (Tryz.prog.elem T)) := by rw [he]; exact hT
  refine ⟨if cap = l then ⟨b, o, none⟩ else ⟨b, o + l, none⟩, fun h => if_neg (by omega), fun W => ?_⟩
  have hz : (sizeOf 71).run Tryz.prog W = .ok 1 W := by kernel_rfl
  rw [run_slice_l W T _ _ _ ht' kk (l : Int) (by omega) (by omega)]
  rw [he, hz]
  by_cases c : cap = l
  · simp [Result.andThen, sliced, c]
  · simp [Result.andThen, sliced, c, Addr.add]
theorem slice_from (T : TypeId) (hT : Tryz.prog.underlying T = some (.slice 71)) (b o len cap l : Nat) (h1 : l ≤ len) :
    ∃ a' : Addr, (l < cap → a' = ⟨b, o + l, none⟩) ∧ ∀ W, (Instr.slice T (.slice (some ⟨b, o, none⟩) len cap) (some (.int .i64 (l : Int))) none none).run Tryz.prog W = .ok (.slice (some a') (len - l) (cap - l)) W := slice_fromK .i64 T hT b o len cap l h1
/-- A part of a row. -/
theorem slice_part (T : TypeId) (hT : Tryz.prog.underlying T = some (.slice 71)) (b o len cap l h : Nat) (h1 : l ≤ h) (h2 : h ≤ cap) :
    ∃ a' : Addr, (l < cap → a' = ⟨b, o + l, none⟩) ∧ ∀ W, (Instr.slice T (.slice (some ⟨b, o, none⟩) len cap) (some (.int .i64 (l : Int))) (some (.int .i64 (h : Int))) none).run Tryz.prog W = .ok (.slice (some a') (h - l) (cap - l)) W := by
  have he : Tryz.prog.elem T = 71 := by simp [Program.elem, hT]
  have ht' : Tryz.prog.underlying T = some (.slice (Tryz.prog.elem T)) := by rw [he]; exact hT
  refine ⟨if cap = l then ⟨b, o, none⟩ else ⟨b, o + l, none⟩, fun h => if_neg (by omega), fun W => ?_⟩
  have hz : (sizeOf 71).run Tryz.prog W = .ok 1 W := by kernel_rfl
  rw [run_slice_lh W T _ _ _ ht' .i64 .i64 (l : Int) (h : Int) (by omega) (by omega) (by omega)]
  rw [he, hz]
  by_cases c : cap = l
  · simp [Result.andThen, sliced, c]
  · simp [Result.andThen, sliced, c, Addr.add]
theorem wptr_neq (a i b j : Nat) (hne : a ≠ b) (ca cb : Array Value) (w : World) (ha : w.heap[a]? = some (.cells ca 71 (0, 0))) (hb : w.heap[b]? = some (.cells cb 71 (0, 0))) :
    (binOp .neq 85 (.pointer (some ⟨a, i, none⟩)) (.pointer (some ⟨b, j, none⟩))).run Tryz.prog w = .ok (.bool true) w := by
  obtain ⟨k, hte, hs⟩ := Option.map_eq_some_iff.1 info_wsize
  have hsz : k.size ≠ 0 := by omega
  have h : ∀ d : Nat, (Op.equalIn (d + 1) 85 (.pointer (some ⟨a, i, none⟩)) (.pointer (some ⟨b, j, none⟩))).run Tryz.prog w = .ok false w := fun d => by
    simp [Op.equalIn, run_underlying Tryz.underlying85, sizeOf, typeInfo, hte, hsz, run_sameAddr_other w (a := ⟨a, i, none⟩) (b := ⟨b, j, none⟩) (fun e => hne (by cases e; rfl)) ha hb]
  simp only [binOp]
  simp [Op.equal, Op.maxDepth, h 9999]
theorem wptr_same (a i : Nat) (w : World) :
    (binOp .neq 85 (.pointer (some ⟨a, i, none⟩)) (.pointer (some ⟨a, i, none⟩))).run Tryz.prog w = .ok (.bool false) w := by
  obtain ⟨k, hte, _⟩ := Option.map_eq_some_iff.1 info_wsize
  exact Lib.run_neq_ptr_same w _ Tryz.underlying85 hte
theorem wptr_same' (a i : Nat) (w : World) :
    (binOp .eql 85 (.pointer (some ⟨a, i, none⟩)) (.pointer (some ⟨a, i, none⟩))).run Tryz.prog w = .ok (.bool true) w := by
  obtain ⟨k, hte, _⟩ := Option.map_eq_some_iff.1 info_wsize
  exact run_eql_ptr_same w _ Tryz.underlying85 hte
/-- copy as one step of a region that draws its order, its run known by an equation. -/
theorem step_copy_eq {P : Program} {ops : Array Oper} {o : Oper} {a : Act} {w : World} {K : Act → World → Prop} {Q : Exit → Act → World → Prop} {E : Prop} (hgd : o.guard = none) (d s : Operand) (t t' : TypeId)
    (ho : o.op = .call { callee := .builtin .copy, args := #[d, s], argTypes := #[t, t'] }) (v u : Value) (hd : a.eval d = v) (hs : a.eval s = u) {v' : Value} {w' : World}
    (hr : (Builtin.copy_ #[t, t'] o.type #[v, u]).run P w = .ok v' w') (h : K (a.put o.dst v') w') :
    if Region.wanted o (yielded ops a.tmps) = true then Oper.wp P o a w K Q else E := by
  have hw : Region.wanted o (yielded ops a.tmps) = true := by simp [Region.wanted, hgd]
  rw [if_pos hw]
  exact Lib.wp_copy_run w d s t t' ho v u hd hs hr h
end Go.Proofs.YtmkdcnemocdefaaGreatFmt
