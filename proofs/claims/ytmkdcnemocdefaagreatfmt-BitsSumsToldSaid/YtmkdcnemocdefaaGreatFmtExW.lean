/- The reference's exact sum in memory. -/
import Derived.Test.YtmkdcnemocdefaaGreatFmtTab
import Derived.Test.YtmkdcnemocdefaaGreatFmtVecP
import Derived.Test.YtmkdcnemocdefaaGreatFmtFrx
namespace Go.Proofs.YtmkdcnemocdefaaGreatFmt
open Go.RowKit

def updI (f : Nat → Int) (i : Nat) (v : Int) : Nat → Int := fun j => if j = i then v else f j
/-- Block h holds 72 ints: the values of f. -/
def IBk (w : World) (h : Nat) (f : Nat → Int) : Prop :=
  ∃ cs : Array Value, w.heap[h]? = some (.cells cs 3 (0, 0)) ∧ cs.size = 72 ∧ ∀ i, i < 72 → cs[i]? = some (.int .i64 (f i))
theorem IBk.cell {w : World} {h : Nat} {f : Nat → Int} (H : IBk w h f) (i : Nat) (hi : i < 72) : w.cell? ⟨h, i, none⟩ = some (.int .i64 (f i)) := by
  obtain ⟨cs, h1, _, h2⟩ := H
  exact heap_cell h1 i (h2 i hi)
theorem IBk.frozen {w : World} {h : Nat} {f : Nat → Int} (H : IBk w h f) (i : Nat) : w.frozen? ⟨h, i, none⟩ = false := by
  obtain ⟨cs, h1, _, _⟩ := H
  exact heap_frozen h1 i
theorem IBk.lt {w : World} {h : Nat} {f : Nat → Int} (H : IBk w h f) : h < w.heap.size := by
  obtain ⟨cs, h1, _, _⟩ := H
  exact heap_lt h1
theorem IBk.of_eq {w w' : World} {h : Nat} {f : Nat → Int} (H : IBk w h f) (e : w'.heap[h]? = w.heap[h]?) : IBk w' h f := by
  obtain ⟨cs, h1, h2⟩ := H
  exact ⟨cs, e.trans h1, h2⟩
theorem IBk.set {w : World} {h : Nat} {f : Nat → Int} (H : IBk w h f) (i : Nat) (v : Int) : IBk (w.setCell ⟨h, i, none⟩ (.int .i64 v)) h (updI f i v) := by
  obtain ⟨cs, h1, h2, h3⟩ := H
  refine ⟨_, heap_set h1 i _, by simpa using h2, fun j hj => ?_⟩
  unfold updI
  by_cases e : j = i
  · subst e
    simp [h2, hj]
  · rw [if_neg e, Array.getElem?_setIfInBounds_ne (Ne.symm e)]
    exact h3 j hj
theorem IBk.drewN {w : World} {h : Nat} {f : Nat → Int} (H : IBk w h f) (n : Nat) : IBk (w.drewN n) h f := H.of_eq (by rw [heap_drewN])
/-- The exact sum: its struct at block e, its digits at block h. -/
def Exa (w : World) (e h : Nat) (f : Nat → Int) : Prop :=
  w.heap[e]? = some (.cells #[.slice (some ⟨h, 0, none⟩) 72 72] 54 (0, 0)) ∧ IBk w h f ∧ e ≠ h
theorem Exa.c0 {w : World} {e h : Nat} {f : Nat → Int} (H : Exa w e h f) : w.cell? ⟨e, 0, none⟩ = some (.slice (some ⟨h, 0, none⟩) 72 72) := heap_cell H.1 0 rfl
theorem Exa.of_eq {w w' : World} {e h : Nat} {f : Nat → Int} (H : Exa w e h f) (h1 : w'.heap[e]? = w.heap[e]?) (h2 : w'.heap[h]? = w.heap[h]?) : Exa w' e h f := ⟨h1.trans H.1, H.2.1.of_eq h2, H.2.2⟩
theorem Exa.drewN {w : World} {e h : Nat} {f : Nat → Int} (H : Exa w e h f) (n : Nat) : Exa (w.drewN n) e h f := H.of_eq (by rw [heap_drewN]) (by rw [heap_drewN])
theorem Exa.set {w : World} {e h : Nat} {f : Nat → Int} (H : Exa w e h f) (i : Nat) (v : Int) : Exa (w.setCell ⟨h, i, none⟩ (.int .i64 v)) e h (updI f i v) :=
  ⟨by rw [heap_set_far H.2.2]; exact H.1, H.2.1.set i v, H.2.2⟩

theorem i64_and1 (n : Int) : bits .and .i64 n 1 = n % 2 := by
  have h1 : (BitVec.ofInt 64 1).toNat = 2 ^ 1 - 1 := by decide
  have key : (BitVec.ofInt 64 n &&& BitVec.ofInt 64 1).toNat = (n % ((2 ^ 64 : Nat) : Int)).toNat % 2 ^ 1 := by
    rw [BitVec.toNat_and, BitVec.toNat_ofInt, h1, Nat.and_two_pow_sub_one_eq_mod]
  show IntKind.i64.wrap ((BitVec.ofInt 64 n &&& BitVec.ofInt 64 1).toNat : Nat) = n % 2
  rw [key, IntKind.wrap_i64]
  omega
set_option maxRecDepth 20000 in
theorem bit_ref (e h : Nat) (f : Nat → Nat) (k : Nat) (w : World) (H : Exa w e h (fun i => (f i : Int))) (hk : k < 2304) (hf : ∀ i, i < 72 → f i < 2 ^ 32) :
    Calls Tryz.prog 42 #[.pointer (some ⟨e, 0, none⟩), .int .i64 (k : Int)] w fun en w' => en = .returned (.int .i64 ((numd f 72 / 2 ^ k % 2 : Nat) : Int)) ∧ w' = w := by
  rw [numd_bit f 72 k (by omega) hf]
  obtain ⟨q, hq⟩ : ∃ q, k / 32 = q := ⟨_, rfl⟩
  obtain ⟨s, hs⟩ : ∃ s, k % 32 = s := ⟨_, rfl⟩
  rw [hq, hs]
  have c0 := H.c0
  have c1 := H.2.1.cell q (by omega)
  have e1 : (k : Int) / 32 = (q : Int) := by omega
  have e2 : (k : Int) % 32 = (s : Int) := by omega
  clear H
  have ea : bits .and .i64 ((f q : Int) / 2 ^ s) 1 = ((f q / 2 ^ s % 2 : Nat) : Int) := by
    rw [i64_and1]
    rw [show (f q : Int) / 2 ^ s = ((f q / 2 ^ s : Nat) : Int) by simp]
    omega
  obtain ⟨r, hr⟩ : ∃ r, f q / 2 ^ s % 2 = r := ⟨_, rfl⟩
  rw [hr] at ea ⊢
  clear hr
  go_enter Tryz.func42, Tryz.ntmps42
  go_wp2
  go_ret
  exact ⟨rfl, rfl⟩

end Go.Proofs.YtmkdcnemocdefaaGreatFmt
