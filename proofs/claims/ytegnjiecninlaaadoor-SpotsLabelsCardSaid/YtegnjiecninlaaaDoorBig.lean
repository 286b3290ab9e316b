/- Whole numbers by digits: what the reference's BigOf, trimmed, BigMul, BigCmp, Product compute. -/
import Derived.Test.YtegnjiecninlaaaDoorBigP
import Derived.Maps.AppendAt
namespace Go.Proofs.YtegnjiecninlaaaDoor
open Go.RowKit

theorem info_int : (Tryd.prog.info? 3).map (fun i => (i.zero, i.size, i.bytes)) = some (some (.int .i64 0), 1, 8) := by kernel_rfl

/-- A number's digits in a row. -/
def Num (w : World) (a : Option Addr) (len v : Nat) : Prop := Wide v len ∧ len ≤ 1000 ∧ (len = 0 ∨ ∃ b off, a = some ⟨b, off, none⟩ ∧ ∀ j, j < len → w.cell? ⟨b, off + j, none⟩ = some (.int .i64 (dgt v j)))
theorem Num.below {w w' : World} {a : Option Addr} {len v : Nat} (h : Num w a len v) (hb : Below w.heap.size w w') : Num w' a len v := by
  obtain ⟨h1, h2, h3⟩ := h
  refine ⟨h1, h2, ?_⟩
  rcases h3 with h | ⟨b, off, e, hc⟩
  · exact Or.inl h
  · refine Or.inr ⟨b, off, e, fun j hj => ?_⟩
    have := hc j hj
    rw [hb.cell (p := ⟨b, off + j, none⟩) (cell_lt this)]; exact this

/-! ### BigOf -/
def digL (n : Nat) : Nat → List Value
  | 0 => []
  | k + 1 => digL n k ++ [.int .i64 (dgt n k)]
theorem digL_get (n k : Nat) : ∀ j, j < k → (digL n k)[j]? = some (.int .i64 (dgt n j)) := by
  have hl : ∀ k, (digL n k).length = k := by
    intro k
    induction k with
    | zero => rfl
    | succ k ih => unfold digL; simp [ih]
  induction k with
  | zero => intro j hj; omega
  | succ k ih =>
    intro j hj
    unfold digL
    by_cases c : j < k
    · rw [List.getElem?_append_left (by rw [hl]; omega)]
      exact ih j c
    · obtain rfl : j = k := by omega
      rw [List.getElem?_append_right (by rw [hl]; omega), hl]
      simp
/-- What holds ahead of each round. -/
def BRel (w : World) (n : Nat) (v : Value) (k : Nat) (wr : World) : Prop := wr.ownsRow w.heap.size 3 1 v k (digL n k) ∧ Below w.heap.size w wr
theorem BRel.step {w : World} {n : Nat} {v v' : Value} {k : Nat} {wr w1 : World} {o : Obj} (h : BRel w n v k wr) (hown : w1.ownsRow w.heap.size 3 1 v' (k + 1) (digL n k ++ [.int .i64 (dgt n k)])) (hg : (wr.alloc o).grownBy w1 v.ownBlock) : BRel w n v' (k + 1) w1 := by
  obtain ⟨h1, h4⟩ := h
  have hs := h4.size
  exact ⟨hown, (h4.alloc hs o).grown hg (by simp only [World.size_alloc]; omega) (fun j hj => (h1.lt j hj).1)⟩
theorem pw_3 : pw 3 = 1000000000000000000 := by decide
theorem three_digits {n k : Nat} (hn : n ≤ 600000000000000000) (h : 0 < k → pw (k - 1) ≤ n) : k ≤ 3 := by
  rcases Nat.lt_or_ge 3 k with c | c
  · have := h (by omega)
    have := pw_mono (show 3 ≤ k - 1 by omega)
    rw [pw_3] at this
    omega
  · exact c

theorem bigOf_any (n : Nat) (hn : n ≤ 600000000000000000) (w : World) :
    Calls Tryd.prog 99 #[.int .i64 n] w fun e w' => (∃ a len cap, e = .returned (.slice a len cap) ∧ Num w' a len n) ∧ Below w.heap.size w w' := by
  obtain ⟨i0, hi, hz0, hz1, hz2⟩ := info_parts info_int
  go_enter Tryd.func99, Tryd.ntmps99
  go_wp2
  go_loopw [0, 3] (fun x v wr => ∃ k m : Nat, x = .int .i64 m ∧ m = n / pw k ∧ (0 < k → pw (k - 1) ≤ n) ∧ Hid (BRel w n v k wr)) (fun x _ _ => (intOf x).toNat)
  case atStart => exact ⟨0, n, rfl, by rw [pw_zero, Nat.div_one], fun h => absurd h (by omega), World.ownsRow_nil _ _ _ _, Below.refl _ _⟩
  case round =>
    obtain ⟨k, m, rfl, hm, hp, hr⟩ := hrel
    have hk := three_digits hn hp
    by_cases hlt : 0 < m
    · have hd : dgt n k = m % 1000000 := by rw [hm]; rfl
      have hq : m / 1000000 = n / pw (k + 1) := by rw [hm, pw_succ, Nat.div_div_eq_div_mul]
      have hpk : pw k ≤ n := by
        rcases Nat.lt_or_ge n (pw k) with c | c
        · rw [Nat.div_eq_of_lt c] at hm; omega
        · exact c
      have hos := Lib.hid (fun o => World.ownsRow.alloc hr.out.1 o)
      have HD := Lib.hid hd
      have HQ := Lib.hid hq
      have HP := Lib.hid hpk
      have hsz := hr.out.2.size
      have hm2 : m ≤ 600000000000000000 := by rw [hm]; exact Nat.le_trans (Nat.div_le_self _ _) hn
      clear hd hq hpk hm hp hn
      go_wp2_with (first
        | (at_builtin; refine wpList_append_own_at _ rfl _ _ 90 rfl w.heap.size 3 i0 (.int .i64 0) 1 8 Tryd.underlying90 hi hz0 hz1 hz2 rfl (by decide) u3 k (digL n k) rfl (hos.out _) ⟨wr.heap.size, 0, none⟩ 1 1 [.int .i64 ((m : Int) % 1000000)] rfl rfl ?c1 ?c2 ?c3 ?c4 ?c5 ?_)
        | fail)
      case c1 =>
        intro j u hj
        match j, hj with
        | 0, hj => simp at hj; subst hj; simp [Addr.add]
      case c2 =>
        intro u hu
        simp only [List.mem_cons, List.not_mem_nil, or_false] at hu
        subst hu; rfl
      case c3 => unfold maxLen; omega
      case c4 => omega
      case c5 => simp; omega
      intro v' w1 hown hgrow _ _
      rw [show (m : Int) % 1000000 = ((dgt n k : Nat) : Int) by rw [HD.out]; rfl] at hown
      have R := Lib.hid (hr.out.step hown hgrow)
      clear hown hgrow hr hos
      go_wp2
      go_roundw
      case rel => exact ⟨k + 1, m / 1000000, by go_num, HQ.out, fun _ => HP.out, R⟩
      case measure => simp [intOf]; omega
    · obtain rfl : m = 0 := by omega
      obtain ⟨h1, h4⟩ := hr.out
      have hw : Wide n k := ⟨by
        rcases Nat.lt_or_ge n (pw k) with c | c
        · exact c
        · have := Nat.div_pos c (pw_pos k); omega, hp⟩
      have hT : ∃ a cap, u3 = .slice a k cap ∧ Num wr a k n := by
        rcases h1.2 with ⟨e, hk0⟩ | ⟨g, cap, cur, e, _⟩
        · subst hk0
          exact ⟨none, 0, e, hw, by omega, Or.inl rfl⟩
        · refine ⟨some ⟨g, 0, none⟩, cap, e, hw, by omega, Or.inr ⟨g, 0, rfl, fun j hj => ?_⟩⟩
          have c1 := h1.cells (g := g) (by rw [e]; rfl) j _ (digL_get n k j hj)
          have ea : (⟨g, 0, none⟩ : Addr).add j = ⟨g, j, none⟩ := by
            unfold Addr.add
            split <;> simp_all
          rw [ea] at c1
          rw [Nat.zero_add]
          exact c1
      obtain ⟨a, cap, rfl, hT⟩ := hT
      have HT := Lib.hid hT
      have HB := Lib.hid h4
      clear h1 h4 hT hr hw hp hm
      go_wp2
      go_ret
      exact ⟨⟨a, k, cap, rfl, HT.out⟩, HB.out⟩

/-! ### rows that are written -/
def OutC (w : World) (g n : Nat) (M : Nat → Nat) : Prop := ∀ j, j < n → w.cell? ⟨g, j, none⟩ = some (.int .i64 (M j)) ∧ w.frozen? ⟨g, j, none⟩ = false
theorem OutC.put {w : World} {g n : Nat} {M : Nat → Nat} (h : OutC w g n M) {i : Nat} (hi : i < n) (x : Nat) : OutC (w.setCell ⟨g, i, none⟩ (.int .i64 x)) g n (putF M i x) := by
  intro j hj
  refine ⟨?_, ?_⟩
  · by_cases c : j = i
    · subst c
      rw [putF_same]
      exact World.cell?_setCell_same _ _ _ (h j hj).1
    · rw [putF_other _ _ c, World.cell?_setCell_other _ _ _ _ (by intro e; injection e; omega)]
      exact (h j hj).1
  · rw [World.frozen?_setCell]; exact (h j hj).2
theorem OutC.drawN {w : World} {g n : Nat} {M : Nat → Nat} (h : OutC w g n M) (k : Nat) : OutC (w.drewN k) g n M := by
  intro j hj
  simpa using h j hj
theorem outC_made {w : World} {base g n : Nat} (h : w.ownsRow base 3 1 (.slice (some ⟨g, 0, none⟩) n n) n (madeCells (Value.int .i64 0).cells (n * 1)).toList) : OutC w g n (fun _ => 0) := by
  intro j hj
  refine ⟨?_, h.frozenAt j⟩
  rw [h.cellAt j (by omega)]
  have e : (Value.int .i64 0).cells = #[.int .i64 0] := rfl
  rw [e, toList_madeCells_one]
  simp [hj]

/-! ### trimmed -/
theorem trimmed_any (M : Nat → Nat) (g n v : Nat) (hn : n ≤ 1000) (hs : smallF M n) (hv : valF M n = v) (w : World) (h : OutC w g n M) :
    Calls Tryd.prog 116 #[.slice (some ⟨g, 0, none⟩) n n] w fun e w' => (∃ a len cap, e = .returned (.slice a len cap) ∧ Num w' a len v) ∧ w = w' := by
  have HC := Lib.hid h
  clear h
  go_enter Tryd.func116, Tryd.ntmps116
  go_wp2
  go_loopw [3] (fun x wr => ∃ m : Nat, x = .int .i64 m ∧ m ≤ n ∧ Hid (∀ j, m ≤ j → j < n → M j = 0) ∧ w = wr) (fun x _ => (intOf x).toNat)
  case atStart => exact ⟨n, rfl, Nat.le_refl _, fun j h1 h2 => by omega, rfl⟩
  case round =>
    obtain ⟨m, rfl, hm, hz, rfl⟩ := hrel
    by_cases c : ∃ k, m = k + 1 ∧ M k = 0
    · obtain ⟨k, rfl, hk⟩ := c
      have c1 := (HC.out k (by omega)).1
      rw [hk] at c1
      go_wp2
      go_roundw
      case rel =>
        refine ⟨k, by go_num, by omega, Lib.hid fun j h1 h2 => ?_, by simp⟩
        by_cases e : j = k
        · rw [e]; exact hk
        · exact hz.out j (by omega) h2
      case measure => simp [intOf]
    · have hw := cut_wide hm hs hv hz.out (fun h0 hc => c ⟨m - 1, by omega, hc⟩)
      have hT : Num w (some ⟨g, 0, none⟩) m v := ⟨hw.1, by omega, Or.inr ⟨g, 0, rfl, fun j hj => by rw [Nat.zero_add, ← hw.2 j hj]; exact (HC.out j (by omega)).1⟩⟩
      have HT := Lib.hid hT
      clear hw hT hz hs hv
      by_cases h0 : m = 0
      · subst h0
        clear c
        go_wp2
        go_ret
        exact ⟨⟨_, _, _, rfl, HT.out⟩, rfl⟩
      · obtain ⟨k, rfl⟩ : ∃ k, m = k + 1 := ⟨m - 1, by omega⟩
        have hne : M k ≠ 0 := fun h => c ⟨k, rfl, h⟩
        have c1 := (HC.out k (by omega)).1
        have b0 : ((M k : Int) == 0) = false := by simp; omega
        clear c h0 hne
        go_wp2
        go_ret
        exact ⟨⟨_, _, _, rfl, HT.out⟩, rfl⟩
end Go.Proofs.YtegnjiecninlaaaDoor
