/- frame.Stack's closure, and slices.ContainsFunc with it. -/
import Derived.Test.YtjdjncfpcbeedaaDoorPics
namespace Go.Proofs.YtjdjncfpcbeedaaDoor
open Go.RowKit

/-- Are the first k pictures as large as the first one? -/
def alikeN (D : PicsD) (k : Nat) : Prop := ∀ j, j < k → D.W j = D.W 0 ∧ D.H j = D.H 0
set_option maxHeartbeats 2000000 in
theorem stackC_any (D : PicsD) (p : Option Addr) (m cap B : Nat) (W H : Int) (a : Option Addr) (n c : Nat) (h0 : 0 < m) (w : World) (hb : w.cell? ⟨B, 0, none⟩ = some (.slice p m cap)) (hP : Pics w p m D) :
    Calls Tryd.prog 43 #[.agg #[.int .i64 W, .int .i64 H, .slice a n c], .pointer (some ⟨B, 0, none⟩)] w fun e w' => e = .returned (.bool (!decide (W = D.W 0 ∧ H = D.H 0))) ∧ Below w.heap.size w w' := by
  obtain ⟨lb, lo, rfl, hlb, hpa, _⟩ := hP.at h0
  rw [Nat.zero_mul, Nat.add_zero] at hpa
  obtain ⟨p0, p1, p2, _⟩ := hpa
  have hBl := cell_lt hb
  have HAl := Lib.hid (fun W2 => alike_any W H (D.W 0) (D.H 0) a (D.a 0) n (D.n 0) c (D.c 0) W2)
  have HS : Hid (∀ o W', o = Obj.cells #[.int .i64 W, .int .i64 H, .slice a n c] 31 → Below (w.alloc o).heap.size (w.alloc o) W' → (W'.cell? ⟨w.heap.size, 0, none⟩ = some (.int .i64 W) ∧ W'.cell? ⟨w.heap.size, 1, none⟩ = some (.int .i64 H) ∧ W'.cell? ⟨w.heap.size, 2, none⟩ = some (.slice a n c)) ∧ W'.cell? ⟨B, 0, none⟩ = some (.slice (some ⟨lb, lo, none⟩) m cap) ∧ W'.cell? ⟨lb, lo, none⟩ = some (.int .i64 (D.W 0)) ∧ W'.cell? ⟨lb, lo + 1, none⟩ = some (.int .i64 (D.H 0)) ∧ W'.cell? ⟨lb, lo + 2, none⟩ = some (.slice (D.a 0) (D.n 0) (D.c 0))) := Lib.hid (by
    rintro _ W' rfl hb'
    have hba : ∀ o, Below w.heap.size w (w.alloc o) := fun o => (Below.refl _ _).alloc (Nat.le_refl _) _
    have hbw := below_step (hba _) hb'
    exact ⟨⟨by rw [hb'.cell (p := ⟨w.heap.size, 0, none⟩) (by simp)]; simp, by rw [hb'.cell (p := ⟨w.heap.size, 1, none⟩) (by simp)]; simp, by rw [hb'.cell (p := ⟨w.heap.size, 2, none⟩) (by simp)]; simp⟩, by rw [hbw.cell (p := ⟨B, 0, none⟩) hBl]; exact hb, by rw [hbw.cell (p := ⟨lb, lo, none⟩) hlb]; exact p0, by rw [hbw.cell (p := ⟨lb, lo + 1, none⟩) hlb]; exact p1, by rw [hbw.cell (p := ⟨lb, lo + 2, none⟩) hlb]; exact p2⟩)
  have hba : ∀ o, Below w.heap.size w (w.alloc o) := fun o => (Below.refl _ _).alloc (Nat.le_refl _) _
  have HB0 := Lib.hid hba
  clear hb hP p0 p1 p2 hba
  generalize decide (W = D.W 0 ∧ H = D.H 0) = r at *
  generalize D.W 0 = W0 at *
  generalize D.H 0 = H0 at *
  generalize D.a 0 = a0 at *
  generalize D.n 0 = n0 at *
  generalize D.c 0 = c0 at *
  go_enter Tryd.func43, Tryd.ntmps43
  go_wp2
  have HS' := Lib.hid (HS.out _ · rfl)
  have HB1 := HB0.out (Obj.cells #[.int .i64 W, .int .i64 H, .slice a n c] 31)
  generalize w.alloc (Obj.cells #[.int .i64 W, .int .i64 H, .slice a n c] 31) = w1 at *
  have HS0 := Lib.hid (HS'.out w1 (Below.refl _ _))
  have HS1 := Lib.hid (HS'.out w1.drew (Below.refl _ _).drew)
  have HS3 := Lib.hid (fun w3 (hb : Below w1.drew.heap.size w1.drew w3) => HS'.out w3 (below_step (Below.refl _ _).drew hb))
  obtain ⟨⟨k0, k1, k2⟩, k3, k4, k5, k6⟩ := HS0.out
  clear HS HB0
  go_region_held3 (fun W' => (W'.cell? ⟨w.heap.size, 0, none⟩ = some (.int .i64 W) ∧ W'.cell? ⟨w.heap.size, 1, none⟩ = some (.int .i64 H) ∧ W'.cell? ⟨w.heap.size, 2, none⟩ = some (.slice a n c)) ∧ W'.cell? ⟨B, 0, none⟩ = some (.slice (some ⟨lb, lo, none⟩) m cap) ∧ W'.cell? ⟨lb, lo, none⟩ = some (.int .i64 W0) ∧ W'.cell? ⟨lb, lo + 1, none⟩ = some (.int .i64 H0) ∧ W'.cell? ⟨lb, lo + 2, none⟩ = some (.slice a0 n0 c0))
    (first | (exact HS3.out _ hb2) | (exact HS0.out) | (exact HS1.out) | go_keep)
    (first | (go_at_call 44; with_reducible refine (HAl.out w1.drew).mono ?_; rintro e w2 ⟨rfl, hb2⟩))
  all_goals
    have HB2 := Lib.hid (below_step HB1 (below_step (Below.refl _ _).drew hb2))
    clear hb2 HS0 HS1 HS3 HS'
    go_wp2
    go_ret
    exact ⟨rfl, HB2.out⟩
theorem alikeN_succ {D : PicsD} {k : Nat} (h : alikeN D k) (h1 : D.W k = D.W 0 ∧ D.H k = D.H 0) : alikeN D (k + 1) := fun j hj => by
  by_cases c : j = k
  · subst c; exact h1
  · exact h j (by omega)
set_option maxHeartbeats 1000000 in
theorem indexP_any (D : PicsD) (p : Option Addr) (m cap B : Nat) (hm : m ≤ 1000000) (w : World) (hb : w.cell? ⟨B, 0, none⟩ = some (.slice p m cap)) (hP : Pics w p m D) :
    Calls Tryd.prog 74 #[.slice p m cap, .func (.func 43) #[] #[.pointer (some ⟨B, 0, none⟩)]] w fun e w' => (∃ r : Int, e = .returned (.int .i64 r) ∧ -1 ≤ r ∧ (r < 0 ↔ alikeN D m)) ∧ Below w.heap.size w w' := by
  have HB := Lib.hid hb
  have HP := Lib.hid hP
  have hBl := cell_lt hb
  clear hb hP
  go_enter Tryd.func74, Tryd.ntmps74
  go_wp2
  go_loopw [8] (fun i wr => ∃ k : Nat, k ≤ m ∧ i = .int .i64 k ∧ Hid (alikeN D k) ∧ Hid (Below w.heap.size w wr)) (fun i _ => m - (intOf i).toNat)
  case atStart => exact ⟨0, Nat.zero_le _, rfl, Lib.hid (fun j hj => by omega), Lib.hid (Below.refl _ _)⟩
  case round =>
    obtain ⟨k, hk, rfl, hal, hw⟩ := hrel
    by_cases hlt : k < m
    · have HC := Lib.hid (stackC_any D p m cap B (D.W k) (D.H k) (D.a k) (D.n k) (D.c k) (by omega) wr (by rw [hw.out.cell (p := ⟨B, 0, none⟩) hBl]; exact HB.out) (HP.out.below hw.out))
      obtain ⟨b, o, rfl, hbl, hpa, _⟩ := (HP.out.below hw.out).at hlt
      obtain ⟨p0, p1, p2, _⟩ := hpa
      have HY := Lib.hid (fun h => alikeN_succ (k := k) hal.out h)
      by_cases c : D.W k = D.W 0 ∧ D.H k = D.H 0
      · have e : (!decide (D.W k = D.W 0 ∧ D.H k = D.H 0)) = false := by simp [c]
        rw [e] at HC
        have HZ := Lib.hid (HY.out c)
        clear HY c e
        go_wp2_with fail
        refine HC.out.mono ?_; rintro e w2 ⟨rfl, hb2⟩
        have HW := Lib.hid (below_step hw.out hb2)
        clear hb2 HC hw p0 p1 p2
        go_wp2
        go_roundw
        case rel => exact ⟨k + 1, by omega, by go_num, HZ, HW⟩
        case measure => simp [intOf]; omega
      · have e : (!decide (D.W k = D.W 0 ∧ D.H k = D.H 0)) = true := by simp only [Bool.not_eq_true']; exact decide_eq_false c
        rw [e] at HC
        have HZ : Hid (¬ alikeN D m) := Lib.hid (fun h => c (h k hlt))
        clear HY c e
        go_wp2_with fail
        refine HC.out.mono ?_; rintro e w2 ⟨rfl, hb2⟩
        have HW := Lib.hid (below_step hw.out hb2)
        clear hb2 HC hw p0 p1 p2
        go_wp2
        go_ret
        exact ⟨⟨k, rfl, by omega, ⟨fun h => by omega, fun h => absurd h HZ.out⟩⟩, HW.out⟩
    · obtain rfl : k = m := by omega
      go_wp2
      go_ret
      exact ⟨⟨-1, rfl, by omega, ⟨fun _ => hal.out, fun _ => by omega⟩⟩, hw.out⟩
theorem containsP_any (D : PicsD) (p : Option Addr) (m cap B : Nat) (hm : m ≤ 1000000) (w : World) (hb : w.cell? ⟨B, 0, none⟩ = some (.slice p m cap)) (hP : Pics w p m D) :
    Calls Tryd.prog 42 #[.slice p m cap, .func (.func 43) #[] #[.pointer (some ⟨B, 0, none⟩)]] w fun e w' => (∃ b : Bool, e = .returned (.bool b) ∧ (b = false ↔ alikeN D m)) ∧ Below w.heap.size w w' := by
  have HI := Lib.hid (indexP_any D p m cap B hm w hb hP)
  clear hb hP
  go_enter Tryd.func42, Tryd.ntmps42
  go_wp2_with fail
  refine HI.out.mono ?_; rintro e w1 ⟨⟨r, rfl, h1, h2⟩, hb1⟩
  have H2 := Lib.hid h2
  have HB := Lib.hid hb1
  clear h2 HI hb1
  by_cases c : r < 0
  · have b : decide (0 ≤ r) = false := by simp; omega
    have H3 := Lib.hid (H2.out.1 c)
    go_wp2
    go_ret
    exact ⟨⟨false, rfl, ⟨fun _ => H3.out, fun _ => rfl⟩⟩, HB.out⟩
  · have b : decide (0 ≤ r) = true := by simp; omega
    have H3 : Hid (¬ alikeN D m) := Lib.hid fun h => c (H2.out.2 h)
    go_wp2
    go_ret
    exact ⟨⟨true, rfl, ⟨fun h => (by cases h), fun h => absurd h H3.out⟩⟩, HB.out⟩
end Go.Proofs.YtjdjncfpcbeedaaDoor
