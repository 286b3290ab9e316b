/- The known leap seconds: what tick.Known makes. -/
import Derived.Test.YtjdjncfpcbeedaaDoorDay
import Derived.Maps.AppendAt
namespace Go.Proofs.YtjdjncfpcbeedaaDoor
open Go.RowKit

/-- The dates: years and months. -/
def ats : List Int := [197201, 197207, 197301, 197401, 197501, 197601, 197701, 197801, 197901, 198001, 198107, 198207, 198307, 198507, 198801, 199001, 199101, 199207, 199307, 199407, 199601, 199707, 199901, 200601, 200901, 201207, 201507, 201701]
def KD (j : Nat) : Int := dayOfF ((ats.getD j 0).tdiv 100) ((ats.getD j 0).tmod 100).toNat 1
def KA (j : Nat) : Int := 10 + j
/-- The cells of the first k rows. -/
def rowsL : Nat → List Value
  | 0 => []
  | k + 1 => rowsL k ++ [.int .i64 (KD k), .int .i64 (KA k)]
theorem rowsL_get (k : Nat) : ∀ j, j < k → (rowsL k)[j * 2]? = some (.int .i64 (KD j)) ∧ (rowsL k)[j * 2 + 1]? = some (.int .i64 (KA j)) := by
  have hl : ∀ k, (rowsL k).length = k * 2 := by
    intro k
    induction k with
    | zero => rfl
    | succ k ih => unfold rowsL; simp [ih]; omega
  induction k with
  | zero => intro j hj; omega
  | succ k ih =>
    intro j hj
    unfold rowsL
    by_cases c : j < k
    · rw [List.getElem?_append_left (by rw [hl]; omega), List.getElem?_append_left (by rw [hl]; omega)]
      exact ih j c
    · obtain rfl : j = k := by omega
      rw [List.getElem?_append_right (by rw [hl]; omega), List.getElem?_append_right (by rw [hl]; omega), hl]
      simp
theorem ats_ok : ∀ j, j < 28 → 1972 ≤ (ats.getD j 0).tdiv 100 ∧ (ats.getD j 0).tdiv 100 ≤ 2017 ∧ ((ats.getD j 0).tmod 100 = 1 ∨ (ats.getD j 0).tmod 100 = 7) ∧ 0 ≤ ats.getD j 0 ∧ ats.getD j 0 ≤ 1000000 := by decide +kernel
theorem KD_in : ∀ j, j < 28 → -9223372036854775808 ≤ KD j ∧ KD j ≤ 9223372036854775807 := by decide +kernel
theorem known_rows : rowsOk KD KA 28 := by
  unfold rowsOk rowOk
  decide +kernel

theorem info_leap : (Tryd.prog.info? 133).map (fun i => (i.zero, i.size, i.bytes)) = some (some (.agg #[.int .i64 0, .int .i64 0]), 2, 16) := by kernel_rfl

/-- What holds ahead of each round. -/
def KRel (w : World) (X : Option Obj) (v : Value) (k : Nat) (wr : World) : Prop :=
  wr.ownsRow w.heap.size 133 2 v k (rowsL k) ∧ wr.heap[w.heap.size + 1]? = X ∧ v.ownBlock ≠ some (w.heap.size + 1) ∧ Below w.heap.size w wr ∧ w.heap.size + 2 ≤ wr.heap.size
theorem KRel.step {w : World} {X : Option Obj} {v v' : Value} {k : Nat} {wr w1 : World} {o : Obj} (h : KRel w X v k wr) (hown : w1.ownsRow w.heap.size 133 2 v' (k + 1) (rowsL k ++ [.int .i64 (KD k), .int .i64 (KA k)]))
    (hg : (wr.alloc o).grownBy w1 v.ownBlock) (hat : v'.ownBlock = v.ownBlock ∨ v'.ownBlock = some (wr.heap.size + 1)) : KRel w X v' (k + 1) w1 := by
  obtain ⟨h1, h2, h3, h4, h5⟩ := h
  have hb : Below w.heap.size w (wr.alloc o) := h4.alloc (by omega) o
  have hs := hg.size
  simp only [World.size_alloc] at hs
  refine ⟨hown, ?_, ?_, hb.grown hg (by simp only [World.size_alloc]; omega) (fun j hj => (h1.lt j hj).1), by omega⟩
  · rw [hg.block (w.heap.size + 1) (by simp only [World.size_alloc]; omega) (Ne.symm h3), Below.heap_alloc _ _ _ (by omega)]; exact h2
  · rcases hat with e | e
    · rw [e]; exact h3
    · rw [e]; intro e'; injection e' with e'; omega

set_option maxRecDepth 20000 in
theorem known_any (w : World) :
    Calls Tryd.prog 48 #[] w fun e w' => (∃ b cap, e = .returned (.slice (some ⟨b, 0, none⟩) 28 cap) ∧ Tab w' (some ⟨b, 0, none⟩) 28 KD KA) ∧ Below w.heap.size w w' := by
  obtain ⟨i0, hi, hz0, hz1, hz2⟩ := info_parts info_leap
  go_enter Tryd.func48, Tryd.ntmps48
  go_wp2
  go_loopw [1, 2, 10] (fun v n i wr => ∃ k : Nat, k ≤ 28 ∧ i = .int .i64 k ∧ n = .int .i64 (KA k) ∧ Hid (KRel w (some (.cells (ats.map (Value.int .i64)).toArray 3)) v k wr)) (fun _ _ i _ => 28 - (intOf i).toNat)
  case atStart =>
    refine ⟨0, by omega, rfl, rfl, Lib.hid ⟨?_, ?_, ?_, ?_, ?_⟩⟩
    · exact (World.ownsRow_made _ #[] 0 (Nat.le_refl _) (by unfold maxLen; omega) rfl).alloc _
    · have h := heap_alloc_new (w.alloc (.cells #[] 133)) (.cells (ats.map (Value.int .i64)).toArray 3)
      rw [World.size_alloc] at h
      exact h
    · simp [Value.ownBlock]
    · exact ((Below.refl _ _).alloc (Nat.le_refl _) _).alloc (by simp) _
    · simp
  case round =>
    obtain ⟨k, hk, rfl, rfl, hr⟩ := hrel
    by_cases hlt : k < 28
    · have hx := ats_ok k hlt
      have hKD : KD k = dayOfF ((ats.getD k 0).tdiv 100) ((ats.getD k 0).tmod 100).toNat 1 := rfl
      have c1 : wr.cell? ⟨w.heap.size + 1, k, none⟩ = some (.int .i64 (ats.getD k 0)) := by
        simp only [World.cell?, hr.out.2.1]
        simp [List.getElem?_eq_getElem (show k < ats.length from hlt)]
      generalize ats.getD k 0 = x at *
      obtain ⟨x1, x2, x3, x4, x5⟩ := hx
      have hsz := hr.out.2.2.2.2
      have hos := Lib.hid (fun o => World.ownsRow.alloc hr.out.1 o)
      have HR := Lib.hid hr.out
      have HK := Lib.hid hKD
      clear hr hKD
      obtain ⟨m, hm, m1, m2⟩ : ∃ m : Nat, x.tmod 100 = m ∧ 1 ≤ m ∧ m ≤ 12 := ⟨(x.tmod 100).toNat, by omega, by omega, by omega⟩
      have hl1 : (1 : Int) ≤ longF (x.tdiv 100) m := by have := long_bd (x.tdiv 100) m; omega
      have hkA := Lib.hid (show KA k + 1 = KA (k + 1) by unfold KA; omega)
      have hkb : KA k ≤ 100 := by unfold KA; omega
      have hkc : 0 ≤ KA k := by unfold KA; omega
      clear x3
      go_wp2_with fail
      refine (dayOf_ok (x.tdiv 100) m 1 (by omega) (by omega) m1 m2 (by omega) hl1 _).mono ?_; rintro e w1 ⟨rfl, rfl⟩
      have hKD : dayOfF (x.tdiv 100) m 1 = KD k := by rw [HK.out, hm]; rfl
      rw [hKD]
      clear hKD HK
      go_wp2_with (first
        | (at_builtin; refine wpList_append_own_at _ rfl _ _ 50 rfl w.heap.size 133 i0 (.agg #[.int .i64 0, .int .i64 0]) 2 16 Tryd.underlying50 hi hz0 hz1 hz2 rfl (by decide) u1 k (rowsL k) rfl (hos.out _) ⟨wr.heap.size, 0, none⟩ 1 1 [.int .i64 (KD k), .int .i64 (KA k)] rfl rfl ?c1 ?c2 ?c3 ?c4 ?c5 ?_)
        | fail)
      case c1 =>
        intro j u hj
        match j, hj with
        | 0, hj => simp at hj; subst hj; simp [Addr.add]
        | 1, hj => simp at hj; subst hj; simp [Addr.add]
      case c2 =>
        intro u hu
        simp only [List.mem_cons, List.not_mem_nil, or_false] at hu
        rcases hu with rfl | rfl <;> rfl
      case c3 => unfold maxLen; omega
      case c4 => omega
      case c5 => simp; omega
      intro v' w1 hown hgrow _ hat
      have R := Lib.hid (HR.out.step hown hgrow hat)
      clear hown hgrow hat HR hos
      go_wp2
      go_roundw
      case rel => exact ⟨k + 1, by omega, by go_num, by rw [hkA.out], R⟩
      case measure => simp [intOf]; omega
    · obtain rfl : k = 28 := by omega
      obtain ⟨h1, _, _, h4, _⟩ := hr.out
      have hc := fun g hg => h1.cells (g := g) hg
      obtain ⟨g, cap, rfl⟩ : ∃ g cap, u1 = .slice (some ⟨g, 0, none⟩) 28 cap := by
        rcases h1.2 with ⟨_, h⟩ | ⟨g, cap, _, h, _⟩
        · exact absurd h (by decide)
        · exact ⟨g, cap, h⟩
      have hT : Tab wr (some ⟨g, 0, none⟩) 28 KD KA := by
        refine Or.inr ⟨g, 0, rfl, fun j hj => ?_⟩
        have hcg := hc g rfl
        have hr := rowsL_get 28 j hj
        have c1 := hcg _ _ hr.1
        have c2 := hcg _ _ hr.2
        have ea : ∀ n, (⟨g, 0, none⟩ : Addr).add n = ⟨g, n, none⟩ := by
          intro n
          unfold Addr.add
          split <;> simp_all
        rw [ea] at c1 c2
        simp only [Nat.zero_add]
        refine ⟨c1, c2, KD_in j hj, by unfold KA In64; omega⟩
      have HT := Lib.hid hT
      have HB := Lib.hid h4
      clear hr h1 h4 hc hT
      go_wp2
      go_ret
      exact ⟨⟨g, cap, rfl, HT.out⟩, HB.out⟩
end Go.Proofs.YtjdjncfpcbeedaaDoor
