/- tick.Read at a text that fits the form: its loop; too long a text. -/
import Derived.Test.YtjdjncfpcbeedaaDoorTkReadE
import Derived.Test.YtjdjncfpcbeedaaDoorTkBackP
namespace Go.Proofs.YtjdjncfpcbeedaaDoor
open Go.RowKit

theorem Row7.fault1 {A R i : Nat} {s : ByteArray} {w wr : World} (h : Row7 A R s i w wr) (hR : w.heap.size ≤ R) (hrl : R < wr.heap.size) (z e : Value) : ∃ WF : World,
    (((wr.setCell ⟨R, 0, none⟩ (.int .i64 0)).setCell ⟨R, 1, none⟩ (.int .i64 0)).alloc (.cells #[z, e] 105)).drew = WF ∧
    WF.cell? ⟨R, 0, none⟩ = some (.int .i64 0) ∧ WF.cell? ⟨R, 1, none⟩ = some (.int .i64 0) ∧ WF.cell? ⟨wr.heap.size, 0, none⟩ = some z ∧ WF.cell? ⟨wr.heap.size, 1, none⟩ = some e ∧ Below w.heap.size w WF := by
  have hs : ((wr.setCell ⟨R, 0, none⟩ (.int .i64 0)).setCell ⟨R, 1, none⟩ (.int .i64 0)).heap.size = wr.heap.size := by simp
  have a0 : ((wr.setCell ⟨R, 0, none⟩ (.int .i64 0)).setCell ⟨R, 1, none⟩ (.int .i64 0)).cell? ⟨R, 0, none⟩ = some (.int .i64 0) := by
    rw [World.cell?_setCell_other _ _ _ _ (by simp), World.cell?_setCell_same _ _ _ h.r0]
  have a1 : ((wr.setCell ⟨R, 0, none⟩ (.int .i64 0)).setCell ⟨R, 1, none⟩ (.int .i64 0)).cell? ⟨R, 1, none⟩ = some (.int .i64 0) :=
    World.cell?_setCell_same _ _ _ (by rw [World.cell?_setCell_other _ _ _ _ (by simp)]; exact h.r1)
  have hb : Below w.heap.size w ((wr.setCell ⟨R, 0, none⟩ (.int .i64 0)).setCell ⟨R, 1, none⟩ (.int .i64 0)) := (h.bel.setCell hR _).setCell hR _
  generalize (wr.setCell ⟨R, 0, none⟩ (.int .i64 0)).setCell ⟨R, 1, none⟩ (.int .i64 0) = W2 at *
  have hd : ∀ W : World, W.drew = W.drewN 1 := fun _ => rfl
  refine ⟨_, rfl, ?_, ?_, ?_, ?_, ?_⟩
  · rw [hd, World.cell?_drewN, World.cell?_alloc_lt _ _ ⟨R, 0, none⟩ (by simp; omega)]; exact a0
  · rw [hd, World.cell?_drewN, World.cell?_alloc_lt _ _ ⟨R, 1, none⟩ (by simp; omega)]; exact a1
  · rw [hd, World.cell?_drewN, ← hs]; simp
  · rw [hd, World.cell?_drewN, ← hs]; simp
  · exact (hb.alloc (by omega) _).drew
set_option maxRecDepth 20000 in
set_option maxHeartbeats 8000000 in
theorem tkRead_long (ad : Nat → Addr) (V : Value) (s : ByteArray) (hs : s.size ≤ 1000000) (w : World) (hE : Sents w ad) (hg : ∀ j, j < 27 → goodAt s j) (hl : 27 < s.size)
    (HV : Hid (∀ o, Calls Tryd.prog 55 #[V] (w.alloc o) fun e w' => e = .returned .nilIface ∧ Below (w.alloc o).heap.size (w.alloc o) w')) :
    Calls Tryd.prog 25 #[V, .string s] w fun e w' => ∃ f, w.heap.size ≤ f ∧ e = .returned (.tuple #[.agg #[.int .i64 0, .int .i64 0], faultV f]) ∧ w'.cell? ⟨f, 0, none⟩ = some (.int .i64 27) ∧ w'.cell? ⟨f, 1, none⟩ = some (errV ad 0) ∧ Below w.heap.size w w' := by
  have HE := Lib.hid hE
  have HGA := Lib.hid hg
  clear hE hg
  go_enter Tryd.func25, Tryd.ntmps25
  go_wp2_with fail
  refine (HV.out _).mono ?_; rintro e w1 ⟨rfl, hb1⟩
  have hs1 : w.heap.size < w1.heap.size := by have := hb1.size; simp at this; omega
  have HR : Hid (∀ o, o = .cells #[.int .i64 0, .int .i64 0, .int .i64 0, .int .i64 0, .int .i64 0, .int .i64 0, .int .i64 0] 102 → Row7 w1.heap.size w.heap.size s 0 w (w1.alloc o)) := Lib.hid (fun o ho => by
    subst ho
    refine ⟨fun j hj => ?_, fun j => by simp, ?_, ?_, ?_, ?_, ?_⟩
    · rcases j with _ | _ | _ | _ | _ | _ | _ | j
      all_goals first | omega | (simp; rfl) | simp [nst]
    · rw [World.cell?_alloc_lt _ _ ⟨w.heap.size, 0, none⟩ hs1, hb1.cell (p := ⟨w.heap.size, 0, none⟩) (by simp)]; simp
    · rw [World.cell?_alloc_lt _ _ ⟨w.heap.size, 1, none⟩ hs1, hb1.cell (p := ⟨w.heap.size, 1, none⟩) (by simp)]; simp
    · rw [World.frozen?_alloc_old _ _ ⟨w.heap.size, 0, none⟩ (by simp; omega), hb1.frozen (p := ⟨w.heap.size, 0, none⟩) (by simp)]; simp
    · rw [World.frozen?_alloc_old _ _ ⟨w.heap.size, 1, none⟩ (by simp; omega), hb1.frozen (p := ⟨w.heap.size, 1, none⟩) (by simp)]; simp
    · exact (below_step ((Below.refl _ _).alloc (Nat.le_refl _) _) hb1).alloc (by omega) _)
  clear hb1 HV
  go_wp2
  go_loopw [8, 21] (fun k v wr => ∃ i : Nat, i ≤ 27 ∧ k = .int .i64 (sep i : Nat) ∧ v = .int .i64 i ∧ Hid (Row7 w1.heap.size w.heap.size s i w wr)) (fun _ v _ => 27 - (intOf v).toNat)
  case atStart => exact ⟨0, by omega, rfl, rfl, Lib.hid (HR.out _ rfl)⟩
  case round =>
    obtain ⟨i, hi, rfl, rfl, HW⟩ := hrel
    by_cases c27 : i = 27
    · subst c27
      have y0 := HW.out.r0
      have y1 := HW.out.r1
      have z0 := HW.out.f0
      have z1 := HW.out.f1
      have e0 : wr.cell? ⟨3, 0, none⟩ = some (.iface 225 (.pointer (some (ad 0)))) := (HE.out.below HW.out.bel).1 0 (by decide)
      have hgl : 3 < w.heap.size := cell_lt (HE.out.1 0 (by decide))
      have hrl : w.heap.size < wr.heap.size := cell_lt y0
      have hne : ¬ 3 = w.heap.size := by omega
      have hne' : ¬ w.heap.size = 3 := by omega
      have hnr : ¬ w.heap.size = wr.heap.size := by omega
      go_wp2
      go_region
      all_goals
        go_wp2
        obtain ⟨WF, hW, v0, v1, v2, v3, hbw⟩ := HW.out.fault1 (Nat.le_refl _) hrl (.int .i64 27) (.iface 225 (.pointer (some (ad 0))))
        rw [hW]
        refine bodyPost_ret (v := .tuple #[.agg #[.int .i64 0, .int .i64 0], faultV wr.heap.size]) ?_ rfl ?_
        · simp [results, Tryd.results25, go_sem, v0, v1, faultV]
        · exact ⟨wr.heap.size, by omega, rfl, v2, v3, hbw⟩
    have hi27 : i < 27 := by omega
    have HG : Hid (∀ j, j < i → goodAt s j) := Lib.hid (fun j hj => HGA.out j (by omega))
    have HG1 : Hid (goodAt s i) := Lib.hid (HGA.out i hi27)
    have cl : i < s.size := HG1.out.1
    have hix := fun W => fp_at i hi27 W
    have hsep := sep_le i hi27
    have hz := HW.out.num (sep i) (by omega)
    have hzf := HW.out.free (sep i)
    have hn := (nst_bd i hi HG.out).1 (sep i)
    have hub : s[i].toNat < 256 := s[i].toNat_lt
    have hbt := bt_in cl
    have b1 : decide ((s.size : Int) ≤ (i : Int)) = false := by simp; omega
    have b1' : decide (s.size ≤ i) = false := by simp; omega
    cases hdg : digF i with
    | true =>
      have hf : fpF i = 48 := by unfold fpF; rw [hdg]; rfl
      rw [hf] at hix
      unfold formP at hix
      have q1 : ((48 : Int) != 48) = false := by decide
      have q2 : ((48 : Int) == 48) = true := by decide
      have c1 : 48 ≤ s[i].toNat ∧ s[i].toNat ≤ 57 := by
        rcases HG1.out.2 with ⟨_, g2⟩ | ⟨g1, _⟩
        · rw [hbt] at g2; exact g2
        · rw [hdg] at g1; cases g1
      have HS : Hid (sep (i + 1) = sep i) := Lib.hid (sep_d hdg)
      have HY : Hid (Row7 w1.heap.size w.heap.size s (i + 1) w (wr.setCell ⟨w1.heap.size, sep i, none⟩ (.int .i64 (((nst s i (sep i) : Nat) : Int) * 10 + ((s[i].toNat : Int) - 48))))) := Lib.hid (HW.out.digS (by omega) (by omega) hdg hsep (by rw [hbt]; omega))
      obtain ⟨c11, c12⟩ := c1
      clear hf hbt hdg HG HG1
      generalize nst s i (sep i) = N at *
      generalize sep i = K at *
      have b2 : decide ((s[i].toNat : Int) < 48) = false := by simp; omega
      have b2' : decide (s[i].toNat < 48) = false := by simp; omega
      have b3 : decide ((57 : Int) < (s[i].toNat : Int)) = false := by simp; omega
      have b3' : decide (57 < s[i].toNat) = false := by simp; omega
      go_wp2
      go_region
      all_goals go_wp2
      all_goals go_region
      all_goals
        go_wp2
        go_roundw
        case rel => exact ⟨i + 1, by omega, by rw [HS.out], by go_num, Lib.hid (HY.out.drew.drew)⟩
        case measure => simp [intOf]; omega
    | false =>
      obtain ⟨g1, g2⟩ := sigF_ne i
      have hf : fpF i = sigF i := by unfold fpF; rw [hdg]; rfl
      rw [hf] at hix
      unfold formP at hix
      have c1 : s[i].toNat = sigF i := by
        rcases HG1.out.2 with ⟨g1, _⟩ | ⟨_, g2⟩
        · rw [hdg] at g1; cases g1
        · rw [← hbt]; exact g2
      have HS : Hid (sep (i + 1) = sep i + 1) := Lib.hid (sep_s hdg)
      have HY : Hid (Row7 w1.heap.size w.heap.size s (i + 1) w wr) := Lib.hid (HW.out.sepS hdg)
      clear hf hbt hdg HG HG1 hz hzf hn
      generalize sep i = K at *
      generalize sigF i = C at *
      have q1 : ((C : Int) != 48) = true := by simp; omega
      have q2 : ((C : Int) == 48) = false := by simp; omega
      have q3 : ((s[i].toNat : Int) != (C : Int)) = false := by simp; omega
      go_wp2
      go_region
      all_goals
        go_wp2
        go_roundw
        case rel => exact ⟨i + 1, by omega, by rw [HS.out]; go_num, by go_num, Lib.hid HY.out.drew⟩
        case measure => simp [intOf]; omega
end Go.Proofs.YtjdjncfpcbeedaaDoor
