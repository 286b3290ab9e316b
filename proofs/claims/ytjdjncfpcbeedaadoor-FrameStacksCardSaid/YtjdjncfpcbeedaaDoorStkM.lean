/- frame.Stack: its walk. -/
import Derived.Test.YtjdjncfpcbeedaaDoorStk
import Derived.Test.YtjdjncfpcbeedaaDoorMed
import Derived.Test.YtjdjncfpcbeedaaDoorRndE
import Derived.Deep.RegionLaw
import Derived.Deep.AppendLies
namespace Go.Proofs.YtjdjncfpcbeedaaDoor
open Go.RowKit

/-- The values of a pixel in all pictures; the medians of the first k pixels. -/
def colL (D : PicsD) (m k : Nat) : List Int := upto (fun i => D.f i k) m
def medsL (D : PicsD) (m k : Nat) : List Int := upto (fun i => medL (colL D m i)) k
theorem colL_len (D : PicsD) (m k : Nat) : (colL D m k).length = m := upto_len _ _
def goodAll (D : PicsD) (m : Nat) : Prop := ∀ i, i < m → picG (D.W i) (D.H i) (D.n i) (D.f i)
/-- What Stack finds wrong: the error's number. -/
def stkB (D : PicsD) (m : Nat) (e : Nat) : Prop :=
  (64 < m ∧ e = 1) ∨ (m = 0 ∧ e = 4) ∨ (m ≤ 64 ∧ 0 < m ∧ ((∃ i, i < m ∧ goodAll D i ∧ ¬ picG (D.W i) (D.H i) (D.n i) (D.f i) ∧ e = picB (D.W i) (D.H i)) ∨ (goodAll D m ∧ ¬ alikeN D m ∧ e = 4)))
structure Res3 (R : Nat) (W : World) : Prop where
  r0 : W.cell? ⟨R, 0, none⟩ = some (.int .i64 0)
  r1 : W.cell? ⟨R, 1, none⟩ = some (.int .i64 0)
  r2 : W.cell? ⟨R, 2, none⟩ = some (.slice none 0 0)
  f0 : W.frozen? ⟨R, 0, none⟩ = false
  f1 : W.frozen? ⟨R, 1, none⟩ = false
  f2 : W.frozen? ⟨R, 2, none⟩ = false
  sz : R < W.heap.size
theorem Res3.below {R : Nat} {W W' : World} (h : Res3 R W) (hb : Below W.heap.size W W') : Res3 R W' := by
  have h1 := h.sz
  have hs := hb.size
  exact ⟨by rw [hb.cell (p := ⟨R, 0, none⟩) h1]; exact h.r0, by rw [hb.cell (p := ⟨R, 1, none⟩) h1]; exact h.r1, by rw [hb.cell (p := ⟨R, 2, none⟩) h1]; exact h.r2,
    by rw [hb.frozen (p := ⟨R, 0, none⟩) h1]; exact h.f0, by rw [hb.frozen (p := ⟨R, 1, none⟩) h1]; exact h.f1, by rw [hb.frozen (p := ⟨R, 2, none⟩) h1]; exact h.f2, by omega⟩
theorem stk_start (w : World) (p : Option Addr) (m cap : Nat) : Res3 (w.heap.size + 1) ((w.alloc (Obj.cells #[.slice p m cap] 37)).alloc (Obj.cells #[.int .i64 0, .int .i64 0, .slice none 0 0] 31)) ∧ ((w.alloc (Obj.cells #[.slice p m cap] 37)).alloc (Obj.cells #[.int .i64 0, .int .i64 0, .slice none 0 0] 31)).cell? ⟨w.heap.size, 0, none⟩ = some (.slice p m cap) ∧ Below w.heap.size w ((w.alloc (Obj.cells #[.slice p m cap] 37)).alloc (Obj.cells #[.int .i64 0, .int .i64 0, .slice none 0 0] 31)) :=
  ⟨⟨by simp, by simp, by simp, by simp, by simp, by simp, by simp⟩, by simp, below2 _ _⟩
set_option maxRecDepth 20000 in
set_option maxHeartbeats 4000000 in
theorem stack_bad (ad : Nat → Addr) (D : PicsD) (p : Option Addr) (m cap : Nat) (er : Nat) (w : World) (he : Errs w ad [1, 4]) (hP : Pics w p m D) (hB : stkB D m er) (hm : m ≤ 9223372036854775807) :
    Calls Tryd.prog 15 #[.slice p m cap] w fun e w' => e = .returned (.tuple #[.agg #[.int .i64 0, .int .i64 0, .slice none 0 0], errV ad er]) ∧ Below w.heap.size w w' := by
  obtain ⟨hr, hc, hbw⟩ := stk_start w p m cap
  have HE := Lib.hid he
  have HP := Lib.hid hP
  clear he hP
  unfold errV
  go_enter Tryd.func15, Tryd.ntmps15
  rcases hB with ⟨h1, rfl⟩ | ⟨rfl, rfl⟩ | ⟨h1, h2, hB⟩
  · go_wp2_with fail
    generalize (w.alloc (Obj.cells #[.slice p m cap] 37)).alloc (Obj.cells #[.int .i64 0, .int .i64 0, .slice none 0 0] 31) = w1 at *
    have e1 : w1.cell? ⟨1, 0, none⟩ = some (.iface 225 (.pointer (some (ad 1)))) := (HE.out.below hbw) 1 (by decide)
    have hgl : 1 < w.heap.size := cell_lt (HE.out 1 (by decide))
    have hne : ¬ 1 = w.heap.size + 1 := by omega
    have y0 := hr.r0
    have y1 := hr.r1
    have y2 := hr.r2
    have z0 := hr.f0
    have z1 := hr.f1
    have z2 := hr.f2
    have HBw := Lib.hid hbw
    clear hr hbw
    go_region
    all_goals
      go_wp2
      refine bodyPost_ret (v := .tuple #[.agg #[.int .i64 0, .int .i64 0, .slice none 0 0], .iface 225 (.pointer (some (ad 1)))]) ?_ rfl ?_
      · simp [results, Tryd.results15, go_sem, y0, y1, y2]
      · exact ⟨rfl, by repeat' first | exact HBw.out | apply Below.drew | (refine Below.setCell ?_ (by simp) _)⟩
  · go_wp2_with fail
    generalize (w.alloc (Obj.cells #[.slice p 0 cap] 37)).alloc (Obj.cells #[.int .i64 0, .int .i64 0, .slice none 0 0] 31) = w1 at *
    have e1 : w1.cell? ⟨0, 0, none⟩ = some (.iface 225 (.pointer (some (ad 4)))) := (HE.out.below hbw) 4 (by decide)
    have hgl : 0 < w.heap.size := cell_lt (HE.out 4 (by decide))
    have hne : ¬ 0 = w.heap.size + 1 := by omega
    have y0 := hr.r0
    have y1 := hr.r1
    have y2 := hr.r2
    have z0 := hr.f0
    have z1 := hr.f1
    have z2 := hr.f2
    have HBw := Lib.hid hbw
    clear hr hbw
    go_region
    all_goals
      go_wp2
      refine bodyPost_ret (v := .tuple #[.agg #[.int .i64 0, .int .i64 0, .slice none 0 0], .iface 225 (.pointer (some (ad 4)))]) ?_ rfl ?_
      · simp [results, Tryd.results15, go_sem, y0, y1, y2]
      · exact ⟨rfl, by repeat' first | exact HBw.out | apply Below.drew | (refine Below.setCell ?_ (by simp) _)⟩
  · have d1 : decide (64 < (m : Int)) = false := by simp; omega
    have d2 : ((m : Int) == 0) = false := by simp; omega
    go_wp2_with fail
    generalize (w.alloc (Obj.cells #[.slice p m cap] 37)).alloc (Obj.cells #[.int .i64 0, .int .i64 0, .slice none 0 0] 31) = w1 at *
    have HBo := Lib.hid hB
    have HR1 := Lib.hid hr
    have HB1 := Lib.hid hbw
    have HC1 := Lib.hid hc
    have hcl := cell_lt hc
    clear hr hbw hB hc
    go_wp2
    go_loopw [24] (fun i wr => ∃ k : Nat, k ≤ m ∧ i = .int .i64 k ∧ Hid (goodAll D k) ∧ Hid (Below w1.heap.size w1 wr)) (fun i _ => m - (intOf i).toNat)
    case atStart => exact ⟨0, Nat.zero_le _, rfl, Lib.hid (fun j hj => by omega), Lib.hid (Below.refl _ _)⟩
    case round =>
      obtain ⟨k, hk, rfl, hgk, hw⟩ := hrel
      have HBr := Lib.hid (below_step HB1.out hw.out)
      by_cases hlt : k < m
      · obtain ⟨lb, lo, rfl, hlb, hpa, _, _, hn⟩ := (HP.out.below HBr.out).at hlt
        have HPA := Lib.hid hpa
        obtain ⟨p0, p1, p2, hrow⟩ := hpa
        have hba : ∀ o, Below wr.heap.size wr (wr.alloc o) := fun o => (Below.refl _ _).alloc (Nat.le_refl _) _
        by_cases g : picG (D.W k) (D.H k) (D.n k) (D.f k)
        · have HV := Lib.hid (fun o => validP_ok ad (D.W k) (D.H k) (D.f k) (D.a k) (D.n k) (D.c k) (wr.alloc o) ((HE.out.below HBr.out).below (hba o)) (hrow.below (hba o)) g)
          have HG2 : Hid (goodAll D (k + 1)) := Lib.hid (fun j hj => by
            by_cases c : j = k
            · subst c; exact g
            · exact hgk.out j (by omega))
          have HA := Lib.hid (fun o => below_step hw.out (hba o))
          clear g hrow hba
          go_wp2_with fail
          refine (HV.out _).mono ?_; rintro e w2 ⟨rfl, hb2⟩
          have HW2 := Lib.hid (below_step (HA.out _) hb2)
          clear hb2 HV HA p0 p1 p2 hw
          go_wp2
          go_roundw
          case rel => exact ⟨k + 1, by omega, by go_num, HG2, HW2⟩
          case measure => simp [intOf]; omega
        · have HV := Lib.hid (fun o => validP_bad ad (D.W k) (D.H k) (D.f k) (D.a k) (D.n k) (D.c k) (wr.alloc o) ((HE.out.below HBr.out).below (hba o)) (hrow.below (hba o)) hn g)
          have her : er = picB (D.W k) (D.H k) := by
            rcases HBo.out with ⟨i, i1, i2, i3, i4⟩ | ⟨i1, _⟩
            · have : i = k := by
                rcases Nat.lt_trichotomy i k with c | c | c
                · exact absurd (hgk.out i c) i3
                · exact c
                · exact absurd (i2 k c) g
              rw [← this]; exact i4
            · exact absurd (i1 k hlt) g
          have HA := Lib.hid (fun o => below_step hw.out (hba o))
          unfold errV at HV
          rw [← her] at HV
          clear g hrow hba her
          go_wp2_with fail
          refine (HV.out _).mono ?_; rintro e w2 ⟨rfl, hb2⟩
          have hw2 := below_step (HA.out _) hb2
          have hr2 := HR1.out.below hw2
          have HB2 := Lib.hid (below_step HB1.out hw2)
          have y0 := hr2.r0
          have y1 := hr2.r1
          have y2 := hr2.r2
          have z0 := hr2.f0
          have z1 := hr2.f1
          have z2 := hr2.f2

          clear hb2 HV HA p0 p1 p2 hw hr2 hw2
          go_wp2
          refine bodyPost_ret (v := .tuple #[.agg #[.int .i64 0, .int .i64 0, .slice none 0 0], .iface 225 (.pointer (some (ad er)))]) ?_ rfl ?_
          · simp [results, Tryd.results15, go_sem, y0, y1, y2]
          · exact ⟨rfl, by repeat' first | exact HB2.out | apply Below.drew | (refine Below.setCell ?_ (by simp) _)⟩
      · obtain rfl : k = m := by omega
        have hno : ¬ alikeN D k ∧ er = 4 := by
          rcases HBo.out with ⟨i, i1, i2, i3, i4⟩ | ⟨_, i2, i3⟩
          · exact absurd (hgk.out i i1) i3
          · exact ⟨i2, i3⟩
        obtain ⟨hno, rfl⟩ := hno
        have hcw : wr.cell? ⟨w.heap.size, 0, none⟩ = some (.slice p k cap) := by rw [hw.out.cell (p := ⟨w.heap.size, 0, none⟩) hcl]; exact HC1.out
        have HCt := Lib.hid (containsP_any D p k cap w.heap.size (by omega) wr hcw (HP.out.below HBr.out))
        have HNo := Lib.hid hno
        clear hno
        go_wp2_with fail
        refine HCt.out.mono ?_; rintro e w2 ⟨⟨b, rfl, hb⟩, hb2⟩
        obtain rfl : b = true := by
          cases b with
          | true => rfl
          | false => exact absurd (hb.1 rfl) HNo.out
        have hw2 := below_step hw.out hb2
        have hr2 := HR1.out.below hw2
        have HB2 := Lib.hid (below_step HB1.out hw2)
        have e1 : w2.cell? ⟨0, 0, none⟩ = some (.iface 225 (.pointer (some (ad 4)))) := (HE.out.below HB2.out) 4 (by decide)
        have hgl : 0 < w.heap.size := cell_lt (HE.out 4 (by decide))
        have hne : ¬ 0 = w.heap.size + 1 := by omega
        have y0 := hr2.r0
        have y1 := hr2.r1
        have y2 := hr2.r2
        have z0 := hr2.f0
        have z1 := hr2.f1
        have z2 := hr2.f2

        clear hb hb2 HCt hcw hw hr2 hw2
        go_wp2
        go_region
        all_goals
          go_wp2
          refine bodyPost_ret (v := .tuple #[.agg #[.int .i64 0, .int .i64 0, .slice none 0 0], .iface 225 (.pointer (some (ad 4)))]) ?_ rfl ?_
          · simp [results, Tryd.results15, go_sem, y0, y1, y2]
          · exact ⟨rfl, by repeat' first | exact HB2.out | apply Below.drew | (refine Below.setCell ?_ (by simp) _)⟩
end Go.Proofs.YtjdjncfpcbeedaaDoor
