/- Products and comparisons of whole numbers by digits: what the reference's BigMul, BigCmp, Product compute. -/
import Derived.Test.YtegnjiecninlaaaDoorBig
namespace Go.Proofs.YtegnjiecninlaaaDoor
open Go.RowKit

/-- The cells of a number's digits. -/
def DgtC (w : World) (a : Option Addr) (len v : Nat) : Prop := ∀ j, j < len → ∃ b off, a = some ⟨b, off, none⟩ ∧ b < w.heap.size ∧ w.cell? ⟨b, off + j, none⟩ = some (.int .i64 (dgt v j))
theorem Num.dgtC {w : World} {a : Option Addr} {len v : Nat} (h : Num w a len v) : DgtC w a len v := by
  intro j hj
  rcases h.2.2 with h0 | ⟨b, off, e, hc⟩
  · omega
  · exact ⟨b, off, e, cell_lt (hc j hj), hc j hj⟩

/-- Ahead of a round of the product: the row that is written, and what was there. -/
def MRel (w : World) (n : Nat) (M : Nat → Nat) (wr : World) : Prop := OutC wr w.heap.size n M ∧ Below w.heap.size w wr
theorem MRel.put {w wr : World} {n : Nat} {M : Nat → Nat} (h : MRel w n M wr) {i : Nat} (hi : i < n) (x : Nat) : MRel w n (putF M i x) (wr.setCell ⟨w.heap.size, i, none⟩ (.int .i64 x)) :=
  ⟨h.1.put hi x, h.2.setCell (Nat.le_refl _) _⟩
theorem MRel.drawN {w wr : World} {n : Nat} {M : Nat → Nat} (h : MRel w n M wr) (k : Nat) : MRel w n M (wr.drewN k) := ⟨h.1.drawN k, below_drewN h.2 k⟩

theorem cast_quo (c m a b : Nat) : (((c + m + a * b) / 1000000 : Nat) : Int) = ((c : Int) + m + a * b) / 1000000 := by
  rw [Int.natCast_ediv, Int.natCast_add, Int.natCast_add, Int.natCast_mul]; rfl
theorem cast_rem (c m a b : Nat) : (((c + m + a * b) % 1000000 : Nat) : Int) = ((c : Int) + m + a * b) % 1000000 := by
  rw [Int.natCast_emod, Int.natCast_add, Int.natCast_add, Int.natCast_mul]; rfl

set_option maxHeartbeats 1000000 in
theorem bigMul_any (a b la lb : Nat) (pa pb : Option Addr) (ca cb : Nat) (w : World) (ha : Num w pa la a) (hb : Num w pb lb b) (hl1 : la ≤ 100) (hl2 : lb ≤ 100) :
    Calls Tryd.prog 98 #[.slice pa la ca, .slice pb lb cb] w fun e w' => (∃ p len cap, e = .returned (.slice p len cap) ∧ Num w' p len (a * b)) ∧ Below w.heap.size w w' := by
  obtain ⟨i0, hi, hz0, hz1, hz2⟩ := info_parts info_int
  have HA := Lib.hid ha.dgtC
  have HB := Lib.hid hb.dgtC
  have hwa := Lib.hid ha.1.1
  have hwb := Lib.hid hb.1.1
  clear ha hb
  go_enter Tryd.func98, Tryd.ntmps98
  go_wp2_with (refine wpList_make_full _ rfl (.tmp 13) (.tmp 13) 90 rfl w.heap.size 3 i0 (.int .i64 0) 1 Tryd.underlying90 hi hz0 hz1 .i64 .i64 ((la : Int) + lb) ((la : Int) + lb) (la + lb) rfl rfl (by omega) (by omega) (by rw [hz2]; omega) (by unfold maxLen; omega) (Nat.le_refl _) ?_; intro w1 hown hgrow)
  have hrel0 : MRel w (la + lb) (fun _ => 0) w1 := ⟨outC_made hown, (Below.refl _ _).grown hgrow (Nat.le_refl _) (fun j hj => by cases hj)⟩
  have HR0 := Lib.hid hrel0
  clear hown hgrow hrel0
  go_wp2
  go_loopw [6] (fun x wr => ∃ (i : Nat) (M : Nat → Nat), x = .int .i64 i ∧ i ≤ la ∧ Hid (MulI a b la lb i 0 0 M) ∧ Hid (MRel w (la + lb) M wr)) (fun x _ => la - (intOf x).toNat)
  case atStart => exact ⟨0, _, rfl, Nat.zero_le _, mulI_zero a b la lb, HR0⟩
  case round =>
    obtain ⟨i, M, rfl, hil, hI, hR⟩ := hrel
    clear HR0
    by_cases hlt : i < la
    · go_wp2
      go_loopw [7, 8] (fun c x wr => ∃ (k c' : Nat) (M : Nat → Nat), x = .int .i64 k ∧ c = .int .i64 c' ∧ k ≤ lb ∧ Hid (MulI a b la lb i k c' M) ∧ Hid (MRel w (la + lb) M wr)) (fun _ x _ => lb - (intOf x).toNat)
      case atStart => exact ⟨0, 0, M, rfl, rfl, Nat.zero_le _, hI, hR⟩
      case round =>
        clear hI hR M
        obtain ⟨k, c, M, rfl, rfl, hkl, hI, hR⟩ := hrel
        have hc := hI.out.2.1
        by_cases hk : k < lb
        · obtain ⟨hI2, hbd⟩ := mulI_step hI.out hlt hk
          obtain ⟨ba, oa, rfl, hba, ca1⟩ := HA.out i hlt
          obtain ⟨bb, ob, rfl, hbb, cb1⟩ := HB.out k hk
          have c1 : wr.cell? ⟨ba, oa + i, none⟩ = some (.int .i64 (dgt a i)) := by rw [hR.out.2.cell (p := ⟨ba, oa + i, none⟩) hba]; exact ca1
          have c2 : wr.cell? ⟨bb, ob + k, none⟩ = some (.int .i64 (dgt b k)) := by rw [hR.out.2.cell (p := ⟨bb, ob + k, none⟩) hbb]; exact cb1
          obtain ⟨c3, f3⟩ := hR.out.1 (i + k) (by omega)
          have m1 := dgt_lt a i
          have m2 := dgt_lt b k
          have m3 := hI.out.1 (i + k) (by omega)
          have HP := Lib.hid (fun n x => (hR.out.drawN n).put (show i + k < la + lb by omega) x)
          have HI2 := Lib.hid hI2
          clear hI2 ca1 cb1
          generalize dgt a i = da at *
          generalize dgt b k = db at *
          generalize M (i + k) = mo at *
          have p0 : 0 ≤ (da : Int) * db := Int.mul_nonneg (by omega) (by omega)
          have p1 : (da : Int) * db ≤ 999999 * 999999 := Int.mul_le_mul (by omega) (by omega) (by omega) (by omega)
          clear hbd
          go_wp2
          go_quiet (fail)
          go_wp2
          go_roundw
          case rel => exact ⟨k + 1, _, _, by go_num, by rw [cast_quo], by omega, HI2, by have h := HP.out nq ((c + mo + da * db) % 1000000); rw [cast_rem] at h; exact h⟩
          case measure => simp [intOf]; omega
        · have e : k = lb := by omega
          subst e
          have hb2 := hwb.out
          have HI2 := Lib.hid (mulI_close hI.out hb2 hlt)
          obtain ⟨c3, f3⟩ := hR.out.1 (i + k) (by omega)
          have HP := Lib.hid (hR.out.put (show i + k < la + k by omega) c)
          clear hb2 hI
          go_wp2
          go_roundw
          case rel => exact ⟨i + 1, _, by go_num, by omega, HI2, HP⟩
          case measure => simp [intOf]; omega
    · have e : i = la := by omega
      subst e
      obtain ⟨hv, hs⟩ := mulI_done hI.out hwa.out
      have HT := Lib.hid (trimmed_any M w.heap.size (i + lb) (a * b) (by omega) hs hv wr hR.out.1)
      clear hv hs hI
      go_wp2_with fail
      refine HT.out.mono ?_; rintro e w2 ⟨⟨p, len, cap, rfl, hN⟩, rfl⟩
      have HN := Lib.hid hN
      clear hN HT
      go_wp2
      go_ret
      exact ⟨⟨p, len, cap, rfl, HN.out⟩, hR.out.2⟩

/-! ### BigCmp at one number -/
theorem bigCmp_same (v la lb : Nat) (pa pb : Option Addr) (ca cb : Nat) (w : World) (ha : Num w pa la v) (hb : Num w pb lb v) :
    Calls Tryd.prog 57 #[.slice pa la ca, .slice pb lb cb] w fun e w' => e = .returned (.int .i64 0) ∧ Below w.heap.size w w' := by
  obtain rfl := wide_eq ha.1 hb.1
  have HA := Lib.hid ha.dgtC
  have HB := Lib.hid hb.dgtC
  have hl := ha.2.1
  clear ha hb
  go_enter Tryd.func57, Tryd.ntmps57
  go_wp2
  go_loopw [5] (fun x wr => ∃ k : Nat, x = .int .i64 ((k : Int) - 1) ∧ k ≤ la ∧ Hid (Below w.heap.size w wr)) (fun x _ => (intOf x + 1).toNat)
  case atStart => exact ⟨la, rfl, Nat.le_refl _, Below.refl _ _⟩
  case round =>
    obtain ⟨k, rfl, hk, hw⟩ := hrel
    by_cases h0 : k = 0
    · subst h0
      go_wp2
      go_ret
      exact ⟨rfl, hw.out⟩
    · obtain ⟨j, rfl⟩ : ∃ j, k = j + 1 := ⟨k - 1, by omega⟩
      obtain ⟨ba, oa, rfl, hba, ca1⟩ := HA.out j (by omega)
      obtain ⟨bb, ob, rfl, hbb, cb1⟩ := HB.out j (by omega)
      have c1 : wr.cell? ⟨ba, oa + j, none⟩ = some (.int .i64 (dgt v j)) := by rw [hw.out.cell (p := ⟨ba, oa + j, none⟩) hba]; exact ca1
      have c2 : wr.cell? ⟨bb, ob + j, none⟩ = some (.int .i64 (dgt v j)) := by rw [hw.out.cell (p := ⟨bb, ob + j, none⟩) hbb]; exact cb1
      have hd : ∃ d : Int, ((dgt v j : Nat) : Int) = d ∧ decide (d < d) = false := ⟨_, rfl, by simp⟩
      obtain ⟨d, hd, hdd⟩ := hd
      rw [hd] at c1 c2
      clear hd ca1 cb1 h0
      have e : ((j + 1 : Nat) : Int) - 1 = (j : Int) := by omega
      rw [e] at *
      clear e
      go_wp2
      go_quiet (fail)
      go_wp2
      go_quiet (fail)
      go_wp2
      go_roundw
      case rel => exact ⟨j, rfl, by omega, below_drewN hw.out _⟩
      case measure => simp [intOf]

/-! ### Product -/
def signF (a : Int) : Int := if a < 0 then -1 else 1
theorem digits_few {n k : Nat} (hn : n ≤ 600000000000000000) (h : Wide n k) : k ≤ 3 := three_digits hn h.2
theorem product_any (a : Int) (b : Nat) (ha : -600000000000000000 ≤ a ∧ a ≤ 600000000000000000) (hb : b ≤ 600000000000000000) (w : World) :
    Calls Tryd.prog 56 #[.int .i64 a, .int .i64 b] w fun e w' => (∃ p len cap, e = .returned (.tuple #[.int .i64 (signF a), .slice p len cap]) ∧ Num w' p len (a.natAbs * b)) ∧ Below w.heap.size w w' := by
  have hb0 : decide ((b : Int) < 0) = false := by simp
  by_cases c : a < 0
  · obtain ⟨n, rfl⟩ : ∃ n : Nat, a = -(n : Int) := ⟨(-a).toNat, by omega⟩
    have hs : signF (-(n : Int)) = -1 := by unfold signF; rw [if_pos c]
    have hn : (-(n : Int)).natAbs = n := by omega
    have hn0 : 0 < n := by omega
    rw [hs, hn]
    clear hs hn
    go_enter Tryd.func56, Tryd.ntmps56
    go_wp2_with fail
    refine (bigOf_any n (by omega) _).mono ?_; rintro e w1 ⟨⟨p1, l1, c1, rfl, hN1⟩, hb1⟩
    have HB1 := Lib.hid hb1
    have HN1 := Lib.hid hN1
    clear hb1 hN1
    go_wp2_with fail
    refine (bigOf_any b (by omega) _).mono ?_; rintro e w2 ⟨⟨p2, l2, c2, rfl, hN2⟩, hb2⟩
    have HB2 := Lib.hid (below_step HB1.out hb2)
    have HM := Lib.hid (bigMul_any n b l1 l2 p1 p2 c1 c2 w2 (HN1.out.below hb2) hN2 (by have := digits_few (by omega) HN1.out.1; omega) (by have := digits_few (by omega) hN2.1; omega))
    clear hb2 hN2 HN1
    go_wp2_with fail
    refine HM.out.mono ?_; rintro e w3 ⟨⟨p3, l3, c3, rfl, hN3⟩, hb3⟩
    have HB3 := Lib.hid (below_step HB2.out hb3)
    have HN3 := Lib.hid hN3
    clear hb3 hN3 HM
    go_wp2
    go_ret2
    exact ⟨⟨p3, l3, c3, rfl, HN3.out⟩, HB3.out⟩
  · obtain ⟨n, rfl⟩ : ∃ n : Nat, a = (n : Int) := ⟨a.toNat, by omega⟩
    have hs : signF (n : Int) = 1 := by unfold signF; rw [if_neg c]
    have hn : (n : Int).natAbs = n := by omega
    rw [hs, hn]
    clear hs hn
    go_enter Tryd.func56, Tryd.ntmps56
    go_wp2_with fail
    refine (bigOf_any n (by omega) _).mono ?_; rintro e w1 ⟨⟨p1, l1, c1, rfl, hN1⟩, hb1⟩
    have HB1 := Lib.hid hb1
    have HN1 := Lib.hid hN1
    clear hb1 hN1
    go_wp2_with fail
    refine (bigOf_any b (by omega) _).mono ?_; rintro e w2 ⟨⟨p2, l2, c2, rfl, hN2⟩, hb2⟩
    have HB2 := Lib.hid (below_step HB1.out hb2)
    have HM := Lib.hid (bigMul_any n b l1 l2 p1 p2 c1 c2 w2 (HN1.out.below hb2) hN2 (by have := digits_few (by omega) HN1.out.1; omega) (by have := digits_few (by omega) hN2.1; omega))
    clear hb2 hN2 HN1
    go_wp2_with fail
    refine HM.out.mono ?_; rintro e w3 ⟨⟨p3, l3, c3, rfl, hN3⟩, hb3⟩
    have HB3 := Lib.hid (below_step HB2.out hb3)
    have HN3 := Lib.hid hN3
    clear hb3 hN3 HM
    go_wp2
    go_ret2
    exact ⟨⟨p3, l3, c3, rfl, HN3.out⟩, HB3.out⟩
end Go.Proofs.YtegnjiecninlaaaDoor
