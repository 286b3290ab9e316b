/- spots.less at what is wrong; spots.Lit. -/
import Derived.Test.YthbekddpnkammaaGreatDoorLess
namespace Go.Proofs.YthbekddpnkammaaGreatDoor
open Go.RowKit

/-! ### a row of bools that a call made -/
def OutB (w : World) (g n : Nat) (M : Nat → Bool) : Prop := ∀ j, j < n → w.cell? ⟨g, j, none⟩ = some (.bool (M j)) ∧ w.frozen? ⟨g, j, none⟩ = false
theorem outB_made {w : World} {base g n : Nat} (h : w.ownsRow base 4 1 (.slice (some ⟨g, 0, none⟩) n n) n (madeCells (Value.bool false).cells (n * 1)).toList) : OutB w g n (fun _ => false) := by
  intro j hj
  refine ⟨?_, h.frozenAt j⟩
  rw [h.cellAt j (by omega)]
  have e : (Value.bool false).cells = #[.bool false] := rfl
  rw [e, toList_madeCells_one]
  simp [hj]
theorem OutB.below {w w' : World} {g n : Nat} {Z : Nat → Bool} (h : OutB w g n Z) (hb : Below w.heap.size w w') : OutB w' g n Z := fun j hj => by
  have hl := cell_lt (h j hj).1
  exact ⟨by rw [hb.cell (p := ⟨g, j, none⟩) hl]; exact (h j hj).1, by rw [hb.frozen (p := ⟨g, j, none⟩) hl]; exact (h j hj).2⟩
theorem OutB.congr {w : World} {g n : Nat} {M N : Nat → Bool} (h : OutB w g n M) (e : ∀ j, j < n → M j = N j) : OutB w g n N := fun j hj => by rw [← e j hj]; exact h j hj
theorem OutB.row {w : World} {g n : Nat} {Z : Nat → Bool} (h : OutB w g n Z) : Bools w (some ⟨g, 0, none⟩) n Z := Or.inr ⟨g, 0, rfl, fun j hj => by rw [Nat.zero_add]; exact (h j hj).1⟩
def partB (m : Nat → Bool) (k j : Nat) : Bool := if j < k then m j else false
theorem OutB.part {w : World} {g n k : Nat} {m : Nat → Bool} (h : OutB w g n (partB m k)) (hk : k < n) : OutB (w.setCell ⟨g, k, none⟩ (.bool (m k))) g n (partB m (k + 1)) := fun j hj => by
  refine ⟨?_, by rw [World.frozen?_setCell]; exact (h j hj).2⟩
  by_cases c : j = k
  · subst c
    rw [World.cell?_setCell_same _ _ _ (h j hj).1, partB, if_pos (by omega)]
  · rw [World.cell?_setCell_other _ _ _ _ (by intro e; injection e; omega), (h j hj).1]
    unfold partB
    by_cases d : j < k
    · rw [if_pos d, if_pos (by omega)]
    · rw [if_neg d, if_neg (by omega)]
theorem OutB.whole {w : World} {g n : Nat} {m : Nat → Bool} (h : OutB w g n (partB m n)) : OutB w g n m := h.congr (fun _ hj => if_pos hj)
theorem info_bool' : (Tryz.prog.info? 4).map (fun i => (i.zero, i.size, i.bytes)) = some (some (.bool false), 1, 1) := by kernel_rfl

/-! ### less at what is wrong -/
set_option maxHeartbeats 1000000 in
theorem less_err (ad : Nat → Addr) (W H T : Int) (f : Nat → Int) (a : Option Addr) (n cap : Nat) (w : World) (he : Errs w ad [1, 4]) (h : IRow w a n f) (hn : n ≤ 9223372036854775807) (g : ¬ picG W H n f) :
    Calls Tryz.prog 52 #[.agg #[.int .i64 W, .int .i64 H, .slice a n cap], .int .i64 T] w fun e w' => e = .returned (.tuple #[.slice none 0 0, errV ad (picB W H)]) ∧ Below w.heap.size w w' := by
  have hb0 : ∀ o, Below w.heap.size w (w.alloc o) := fun o => (Below.refl _ _).alloc (Nat.le_refl _) _
  have HV := Lib.hid (fun o => ground_err ad W H T f a n cap (w.alloc o) (he.below (hb0 o)) (h.below (hb0 o)) hn g)
  have HB0 := Lib.hid hb0
  clear he h g hb0
  unfold errV at *
  generalize picB W H = pb at *
  go_enter Tryz.func52, Tryz.ntmps52
  go_wp2_with fail
  refine (HV.out _).mono ?_; rintro e w1 ⟨rfl, hb1⟩
  have HB := Lib.hid (below_step (HB0.out _) hb1)
  clear hb1 HV
  go_wp2
  go_ret2
  exact ⟨rfl, HB.out⟩
set_option maxHeartbeats 1000000 in
theorem less_shape (ad : Nat → Addr) (W H T : Int) (f : Nat → Int) (a : Option Addr) (n cap : Nat) (w : World) (he : Errs w ad [1, 4]) (h : IRow w a n f) (g : picG W H n f) (hT : T < 1 ∨ 256 < T) :
    Calls Tryz.prog 52 #[.agg #[.int .i64 W, .int .i64 H, .slice a n cap], .int .i64 T] w fun e w' => e = .returned (.tuple #[.slice none 0 0, errV ad 4]) ∧ Below w.heap.size w w' := by
  have hb0 : ∀ o, Below w.heap.size w (w.alloc o) := fun o => (Below.refl _ _).alloc (Nat.le_refl _) _
  have HV := Lib.hid (fun o => ground_shape ad W H T f a n cap (w.alloc o) (he.below (hb0 o)) (h.below (hb0 o)) g hT)
  have HB0 := Lib.hid hb0
  clear he h g hb0
  unfold errV at *
  go_enter Tryz.func52, Tryz.ntmps52
  go_wp2_with fail
  refine (HV.out _).mono ?_; rintro e w1 ⟨rfl, hb1⟩
  have HB := Lib.hid (below_step (HB0.out _) hb1)
  clear hb1 HV
  go_wp2
  go_ret2
  exact ⟨rfl, HB.out⟩

/-! ### Lit -/
set_option maxHeartbeats 1000000 in
theorem lit_err (ad : Nat → Addr) (W H T over : Int) (f : Nat → Int) (a : Option Addr) (n cap : Nat) (w : World) (he : Errs w ad [1, 4]) (h : IRow w a n f) (hn : n ≤ 9223372036854775807) (g : ¬ picG W H n f) :
    Calls Tryz.prog 51 #[.agg #[.int .i64 W, .int .i64 H, .slice a n cap], .int .i64 T, .int .i64 over] w fun e w' => e = .returned (.tuple #[.slice none 0 0, errV ad (picB W H)]) ∧ Below w.heap.size w w' := by
  have hb0 : ∀ o, Below w.heap.size w (w.alloc o) := fun o => (Below.refl _ _).alloc (Nat.le_refl _) _
  have HV := Lib.hid (fun o => less_err ad W H T f a n cap (w.alloc o) (he.below (hb0 o)) (h.below (hb0 o)) hn g)
  have HB0 := Lib.hid hb0
  clear he h g hb0
  unfold errV at *
  generalize picB W H = pb at *
  go_enter Tryz.func51, Tryz.ntmps51
  go_wp2_with fail
  refine (HV.out _).mono ?_; rintro e w1 ⟨rfl, hb1⟩
  have HB := Lib.hid (below_step (HB0.out _) hb1)
  clear hb1 HV
  go_wp2
  go_ret2
  exact ⟨rfl, HB.out⟩
set_option maxHeartbeats 1000000 in
theorem lit_shape (ad : Nat → Addr) (W H T over : Int) (f : Nat → Int) (a : Option Addr) (n cap : Nat) (w : World) (he : Errs w ad [1, 4]) (h : IRow w a n f) (g : picG W H n f) (hT : T < 1 ∨ 256 < T) :
    Calls Tryz.prog 51 #[.agg #[.int .i64 W, .int .i64 H, .slice a n cap], .int .i64 T, .int .i64 over] w fun e w' => e = .returned (.tuple #[.slice none 0 0, errV ad 4]) ∧ Below w.heap.size w w' := by
  have hb0 : ∀ o, Below w.heap.size w (w.alloc o) := fun o => (Below.refl _ _).alloc (Nat.le_refl _) _
  have HV := Lib.hid (fun o => less_shape ad W H T f a n cap (w.alloc o) (he.below (hb0 o)) (h.below (hb0 o)) g hT)
  have HB0 := Lib.hid hb0
  clear he h g hb0
  unfold errV at *
  go_enter Tryz.func51, Tryz.ntmps51
  go_wp2_with fail
  refine (HV.out _).mono ?_; rintro e w1 ⟨rfl, hb1⟩
  have HB := Lib.hid (below_step (HB0.out _) hb1)
  clear hb1 HV
  go_wp2
  go_ret2
  exact ⟨rfl, HB.out⟩
set_option maxHeartbeats 1000000 in
theorem lit_over (ad : Nat → Addr) (W H T : Nat) (over : Int) (f : Nat → Int) (a : Option Addr) (n cap : Nat) (w : World) (he : Errs w ad [1, 4]) (h : IRow w a n f) (g : picG W H n f) (hT : 1 ≤ T) (hT2 : T ≤ 256) (ho : over < 0) :
    Calls Tryz.prog 51 #[.agg #[.int .i64 W, .int .i64 H, .slice a n cap], .int .i64 T, .int .i64 over] w fun e w' => e = .returned (.tuple #[.slice none 0 0, errV ad 4]) ∧ Below w.heap.size w w' := by
  have hb0 : ∀ o, Below w.heap.size w (w.alloc o) := fun o => (Below.refl _ _).alloc (Nat.le_refl _) _
  have HV := Lib.hid (fun o => less_ok ad W H T f a n cap (w.alloc o) (he.below (hb0 o)) (h.below (hb0 o)) g hT hT2)
  have HB0 := Lib.hid hb0
  have HE := Lib.hid he
  have d : decide (over < 0) = true := by simpa using ho
  clear he h g hb0
  unfold errV at *
  go_enter Tryz.func51, Tryz.ntmps51
  go_wp2_with fail
  refine (HV.out _).mono ?_; rintro e w1 ⟨gb, rfl, _, hb1, _⟩
  have hbw := below_step (HB0.out _) hb1
  have e4 : w1.cell? ⟨0, 0, none⟩ = some (.iface 230 (.pointer (some (ad 4)))) := (HE.out.below hbw) 4 (by decide)
  have HB := Lib.hid hbw
  clear hb1 HV hbw
  go_wp2
  go_quiet (fail)
  go_wp2
  go_ret2
  exact ⟨rfl, below_drewN HB.out _⟩
set_option maxHeartbeats 4000000 in
theorem lit_ok (ad : Nat → Addr) (W H T : Nat) (over : Int) (f : Nat → Int) (a : Option Addr) (n cap : Nat) (w : World) (he : Errs w ad [1, 4]) (h : IRow w a n f) (g : picG W H n f) (hT : 1 ≤ T) (hT2 : T ≤ 256) (ho : 0 ≤ over) :
    Calls Tryz.prog 51 #[.agg #[.int .i64 W, .int .i64 H, .slice a n cap], .int .i64 T, .int .i64 over] w fun e w' => ∃ gb, e = .returned (.tuple #[.slice (some ⟨gb, 0, none⟩) n n, .nilIface]) ∧ Bools w' (some ⟨gb, 0, none⟩) n (fun k => decide (over < lessF W T f n k)) ∧ Below w.heap.size w w' := by
  obtain ⟨i0, hi, hz0, hz1, hz2⟩ := info_parts info_bool'
  have hb0 : ∀ o, Below w.heap.size w (w.alloc o) := fun o => (Below.refl _ _).alloc (Nat.le_refl _) _
  have HV := Lib.hid (fun o => less_ok ad W H T f a n cap (w.alloc o) (he.below (hb0 o)) (h.below (hb0 o)) g hT hT2)
  have HB0 := Lib.hid hb0
  have d : decide (over < 0) = false := by simp; omega
  obtain ⟨n1, n2⟩ := area_bd g
  clear he h g hb0
  go_enter Tryz.func51, Tryz.ntmps51
  go_wp2_with fail
  refine (HV.out _).mono ?_; rintro e w1 ⟨gb, rfl, hr, hb1, _⟩
  have HB1 := Lib.hid (below_step (HB0.out _) hb1)
  have HR := Lib.hid (fun j (hj : j < n) => hr.at hj)
  clear hb1 HV hr HB0
  go_wp2_with (refine wpList_make_full _ rfl (.tmp 26) (.tmp 26) 97 rfl w1.heap.size 4 i0 (.bool false) 1 Tryz.underlying97 hi hz0 hz1 .i64 .i64 (n : Int) (n : Int) n rfl rfl rfl rfl (by rw [hz2]; omega) (by unfold maxLen; omega) (Nat.le_refl _) ?_; (intro w3 hown hgrow; have hb3 : Below w1.heap.size w1 w3 := (Below.refl _ _).grown hgrow (Nat.le_refl _) (fun j hj => by cases hj); have HO0 := Lib.hid (outB_made hown); have HB3 := Lib.hid hb3; have HLT := Lib.hid (hown.lt _ rfl).2; clear hown hgrow hb3))
  go_loopw [30] (fun i wr => ∃ k : Nat, k ≤ n ∧ i = .int .i64 k ∧ Hid (OutB wr w1.heap.size n (partB (fun k => decide (over < lessF W T f n k)) k)) ∧ Hid (Below w1.heap.size w1 wr) ∧ Hid (w1.heap.size < wr.heap.size)) (fun i _ => n - (intOf i).toNat)
  case atStart => exact ⟨0, Nat.zero_le _, rfl, Lib.hid (HO0.out.congr (fun j _ => (if_neg (Nat.not_lt_zero _)).symm)), HB3, HLT⟩
  case round =>
    clear HO0 HB3 HLT
    obtain ⟨k, hk, rfl, hO, hB, hL⟩ := hrel
    have HBw := Lib.hid (below_step HB1.out hB.out)
    by_cases hlt : k < n
    · obtain ⟨ba, oa, e0, hba, ck⟩ := HR.out k hlt
      cases e0
      have ckr : wr.cell? ⟨gb, 0 + k, none⟩ = some (.int .i64 (lessF W T f n k)) := by rw [hB.out.cell (p := ⟨gb, 0 + k, none⟩) hba]; exact ck
      rw [Nat.zero_add] at ckr
      obtain ⟨co, fo⟩ := hO.out k hlt
      have HP := Lib.hid (hO.out.part hlt)
      generalize partB (fun k => decide (over < lessF W T f n k)) k = PF at *
      generalize lessF W T f n k = x at *
      clear ck
      go_wp2
      go_roundw
      case rel => exact ⟨k + 1, by omega, by go_num, Lib.hid HP.out, Lib.hid (hB.out.setCell (p := ⟨w1.heap.size, k, none⟩) (Nat.le_refl _) _), Lib.hid (by have := hL.out; simpa using this)⟩
      case measure => simp [intOf]; omega
    · have e : k = n := by omega
      subst e
      have HF := Lib.hid hO.out.whole.row
      clear hO hB hL
      go_wp2
      go_ret2
      exact ⟨_, rfl, HF.out, HBw.out⟩
end Go.Proofs.YthbekddpnkammaaGreatDoor
