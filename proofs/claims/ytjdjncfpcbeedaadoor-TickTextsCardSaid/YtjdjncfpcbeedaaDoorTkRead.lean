/- tick.Read: its walk. -/
import Derived.Test.YtjdjncfpcbeedaaDoorTkReadP
namespace Go.Proofs.YtjdjncfpcbeedaaDoor
open Go.RowKit

def formP : ByteArray := { data := #[48, 48, 48, 48, 45, 48, 48, 45, 48, 48, 84, 48, 48, 58, 48, 48, 58, 48, 48, 46, 48, 48, 48, 48, 48, 48, 90] }
def fpF (i : Nat) : Nat := if digF i then 48 else sigF i
theorem fp_at (i : Nat) (hi : i < 27) (W : World) : (Instr.index 9 (.string formP) (.int .i64 (i : Int))).run Tryd.prog W = .ok (.int .u8 (fpF i : Nat)) W := by
  have hz : formP.size = 27 := rfl
  rw [run_index_string W 9 formP .i64 i Tryd.underlying9, dif_pos (by omega)]
  have h : ∀ x : Fin 27, bt formP x.1 = fpF x.1 := by decide +kernel
  have e : (formP[((i : Nat) : Int).toNat]'(by rw [hz]; omega)).toNat = fpF i := by
    rw [← bt_in (s := formP) (by rw [hz]; omega), Int.toNat_natCast]
    exact h ⟨i, hi⟩
  rw [e]
theorem sigF_ne (i : Nat) : sigF i ≠ 48 ∧ sigF i < 256 := by
  unfold sigF
  repeat' split
  all_goals decide
structure Row7 (A R : Nat) (s : ByteArray) (i : Nat) (w wr : World) : Prop where
  num : ∀ j, j < 7 → wr.cell? ⟨A, j, none⟩ = some (.int .i64 (nst s i j : Nat))
  free : ∀ j, wr.frozen? ⟨A, j, none⟩ = false
  r0 : wr.cell? ⟨R, 0, none⟩ = some (.int .i64 0)
  r1 : wr.cell? ⟨R, 1, none⟩ = some (.int .i64 0)
  f0 : wr.frozen? ⟨R, 0, none⟩ = false
  f1 : wr.frozen? ⟨R, 1, none⟩ = false
  bel : Below w.heap.size w wr
theorem Row7.sepS {A R i : Nat} {s : ByteArray} {w wr : World} (h : Row7 A R s i w wr) (hd : digF i = false) : Row7 A R s (i + 1) w wr :=
  ⟨fun j hj => by rw [nst_s hd]; exact h.num j hj, h.free, h.r0, h.r1, h.f0, h.f1, h.bel⟩
theorem Row7.digS {A R i : Nat} {s : ByteArray} {w wr : World} (h : Row7 A R s i w wr) (hA : w.heap.size ≤ A) (hR : R ≠ A) (hd : digF i = true) (hk : sep i ≤ 6) {y : Int} (hy : y = (nst s i (sep i) * 10 + (bt s i - 48) : Nat)) : Row7 A R s (i + 1) w (wr.setCell ⟨A, sep i, none⟩ (.int .i64 y)) := by
  have hz := h.num (sep i) (by omega)
  refine ⟨fun j hj => ?_, fun j => by rw [World.frozen?_setCell]; exact h.free j, ?_, ?_, by rw [World.frozen?_setCell]; exact h.f0, by rw [World.frozen?_setCell]; exact h.f1, h.bel.setCell hA _⟩
  · rw [nst_d hd]
    by_cases c : j = sep i
    · subst c
      rw [World.cell?_setCell_same _ _ _ hz, upN_at, hy]
    · rw [World.cell?_setCell_other _ _ _ _ (by simp <;> omega), upN_ne _ _ c]
      exact h.num j hj
  · rw [World.cell?_setCell_other _ _ _ _ (by simp <;> omega)]; exact h.r0
  · rw [World.cell?_setCell_other _ _ _ _ (by simp <;> omega)]; exact h.r1
theorem Row7.drewN {A R i : Nat} {s : ByteArray} {w wr : World} (h : Row7 A R s i w wr) (n : Nat) : Row7 A R s i w (wr.drewN n) :=
  ⟨fun j hj => by rw [World.cell?_drewN]; exact h.num j hj, fun j => by rw [World.frozen?_drewN]; exact h.free j, by rw [World.cell?_drewN]; exact h.r0, by rw [World.cell?_drewN]; exact h.r1, by rw [World.frozen?_drewN]; exact h.f0, by rw [World.frozen?_drewN]; exact h.f1, below_drewN h.bel n⟩
theorem Row7.drew {A R i : Nat} {s : ByteArray} {w wr : World} (h : Row7 A R s i w wr) : Row7 A R s i w wr.drew := h.drewN 1
theorem Row7.fault {A R i : Nat} {s : ByteArray} {w wr : World} (h : Row7 A R s i w wr) (hR : w.heap.size ≤ R) (hrl : R < wr.heap.size) (z e : Value) : ∃ WF : World,
    (((wr.setCell ⟨R, 0, none⟩ (.int .i64 0)).setCell ⟨R, 1, none⟩ (.int .i64 0)).alloc (.cells #[z, e] 105)).drew.drew = WF ∧
    WF.cell? ⟨R, 0, none⟩ = some (.int .i64 0) ∧ WF.cell? ⟨R, 1, none⟩ = some (.int .i64 0) ∧ WF.cell? ⟨wr.heap.size, 0, none⟩ = some z ∧ WF.cell? ⟨wr.heap.size, 1, none⟩ = some e ∧ Below w.heap.size w WF := by
  have hs : ((wr.setCell ⟨R, 0, none⟩ (.int .i64 0)).setCell ⟨R, 1, none⟩ (.int .i64 0)).heap.size = wr.heap.size := by simp
  have a0 : ((wr.setCell ⟨R, 0, none⟩ (.int .i64 0)).setCell ⟨R, 1, none⟩ (.int .i64 0)).cell? ⟨R, 0, none⟩ = some (.int .i64 0) := by
    rw [World.cell?_setCell_other _ _ _ _ (by simp), World.cell?_setCell_same _ _ _ h.r0]
  have a1 : ((wr.setCell ⟨R, 0, none⟩ (.int .i64 0)).setCell ⟨R, 1, none⟩ (.int .i64 0)).cell? ⟨R, 1, none⟩ = some (.int .i64 0) :=
    World.cell?_setCell_same _ _ _ (by rw [World.cell?_setCell_other _ _ _ _ (by simp)]; exact h.r1)
  have hb : Below w.heap.size w ((wr.setCell ⟨R, 0, none⟩ (.int .i64 0)).setCell ⟨R, 1, none⟩ (.int .i64 0)) := (h.bel.setCell hR _).setCell hR _
  generalize (wr.setCell ⟨R, 0, none⟩ (.int .i64 0)).setCell ⟨R, 1, none⟩ (.int .i64 0) = W2 at *
  have hd : ∀ W : World, W.drew.drew = W.drewN 2 := fun _ => rfl
  refine ⟨_, rfl, ?_, ?_, ?_, ?_, ?_⟩
  · rw [hd, World.cell?_drewN, World.cell?_alloc_lt _ _ ⟨R, 0, none⟩ (by simp; omega)]; exact a0
  · rw [hd, World.cell?_drewN, World.cell?_alloc_lt _ _ ⟨R, 1, none⟩ (by simp; omega)]; exact a1
  · rw [hd, World.cell?_drewN, ← hs]; simp
  · rw [hd, World.cell?_drewN, ← hs]; simp
  · exact ((hb.alloc (by omega) _).drew).drew
set_option maxRecDepth 20000 in
set_option maxHeartbeats 8000000 in
theorem tkRead_bad (ad : Nat → Addr) (V : Value) (s : ByteArray) (hs : s.size ≤ 1000000) (p : Nat) (w : World) (hE : Sents w ad) (hb : badF s 27 0 = some p)
    (HV : Hid (∀ o, Calls Tryd.prog 55 #[V] (w.alloc o) fun e w' => e = .returned .nilIface ∧ Below (w.alloc o).heap.size (w.alloc o) w')) :
    Calls Tryd.prog 25 #[V, .string s] w fun e w' => ∃ f, w.heap.size ≤ f ∧ e = .returned (.tuple #[.agg #[.int .i64 0, .int .i64 0], faultV f]) ∧ w'.cell? ⟨f, 0, none⟩ = some (.int .i64 (min p s.size : Nat)) ∧ w'.cell? ⟨f, 1, none⟩ = some (errV ad 0) ∧ Below w.heap.size w w' := by
  have HE := Lib.hid hE
  have HB := Lib.hid hb
  clear hE hb
  go_enter Tryd.func25, Tryd.ntmps25
  go_wp2_with fail
  refine (HV.out _).mono ?_; rintro e w1 ⟨rfl, hb1⟩
  have hs1 : w.heap.size < w1.heap.size := by have := hb1.size; simp at this; omega
  have HR : Hid (∀ o, o = .cells #[.int .i64 0, .int .i64 0, .int .i64 0, .int .i64 0, .int .i64 0, .int .i64 0, .int .i64 0] 102 → Row7 w1.heap.size w.heap.size s 0 w (w1.alloc o)) := Lib.hid (fun o ho => by
    subst ho
    refine ⟨fun j hj => ?_, fun j => by simp, ?_, ?_, ?_, ?_, ?_⟩
    · rcases j with _ | _ | _ | _ | _ | _ | _ | j
      all_goals first | omega | (simp; rfl) | simp [nst]
    · rw [World.cell?_alloc_lt _ _ ⟨w.heap.size, 0, none⟩ hs1, hb1.cell (p := ⟨w.heap.size, 0, none⟩) (by simp)]; simp
    · rw [World.cell?_alloc_lt _ _ ⟨w.heap.size, 1, none⟩ hs1, hb1.cell (p := ⟨w.heap.size, 1, none⟩) (by simp)]; simp
    · rw [World.frozen?_alloc_old _ _ ⟨w.heap.size, 0, none⟩ (by simp; omega), hb1.frozen (p := ⟨w.heap.size, 0, none⟩) (by simp)]; simp
    · rw [World.frozen?_alloc_old _ _ ⟨w.heap.size, 1, none⟩ (by simp; omega), hb1.frozen (p := ⟨w.heap.size, 1, none⟩) (by simp)]; simp
    · exact (below_step ((Below.refl _ _).alloc (Nat.le_refl _) _) hb1).alloc (by omega) _)
  clear hb1 HV
  go_wp2
  go_loopw [8, 21] (fun k v wr => ∃ i : Nat, i ≤ 27 ∧ k = .int .i64 (sep i : Nat) ∧ v = .int .i64 i ∧ Hid (∀ j, j < i → goodAt s j) ∧ Hid (badF s (27 - i) i = some p) ∧ Hid (Row7 w1.heap.size w.heap.size s i w wr)) (fun _ v _ => 27 - (intOf v).toNat)
  case atStart => exact ⟨0, by omega, rfl, rfl, Lib.hid (fun j hj => by omega), HB, Lib.hid (HR.out _ rfl)⟩
  case round =>
    obtain ⟨i, hi, rfl, rfl, HG, HP, HW⟩ := hrel
    have hi27 : i < 27 := by
      rcases Nat.lt_or_ge i 27 with h | h
      · exact h
      · have e : i = 27 := by omega
        have := HP.out
        rw [e] at this
        cases this
    have hix := fun W => fp_at i hi27 W
    have hsep := sep_le i hi27
    have hz := HW.out.num (sep i) (by omega)
    have hzf := HW.out.free (sep i)
    have hn := (nst_bd i hi HG.out).1 (sep i)
    by_cases cl : i < s.size
    · have hub : s[i].toNat < 256 := s[i].toNat_lt
      have hbt := bt_in cl
      have HBT := Lib.hid hbt
      have b1 : decide ((s.size : Int) ≤ (i : Int)) = false := by simp; omega
      have b1' : decide (s.size ≤ i) = false := by simp; omega
      cases hdg : digF i with
      | true =>
        have hf : fpF i = 48 := by unfold fpF; rw [hdg]; rfl
        rw [hf] at hix
        unfold formP at hix
        have q1 : ((48 : Int) != 48) = false := by decide
        have q2 : ((48 : Int) == 48) = true := by decide
        by_cases c1 : 48 ≤ s[i].toNat ∧ s[i].toNat ≤ 57
        · have HG1 : Hid (goodAt s i) := Lib.hid ⟨cl, Or.inl ⟨hdg, by rw [hbt]; exact c1⟩⟩
          have HG2 : Hid (∀ j, j < i + 1 → goodAt s j) := Lib.hid (fun j hj => by
            rcases Nat.lt_or_ge j i with h | h
            · exact HG.out j h
            · rw [show j = i by omega]; exact HG1.out)
          have HP2 : Hid (badF s (27 - (i + 1)) (i + 1) = some p) := Lib.hid (by rw [← badF_good HG1.out hi27]; exact HP.out)
          have HS : Hid (sep (i + 1) = sep i) := Lib.hid (sep_d hdg)
          have HY : Hid (Row7 w1.heap.size w.heap.size s (i + 1) w (wr.setCell ⟨w1.heap.size, sep i, none⟩ (.int .i64 (((nst s i (sep i) : Nat) : Int) * 10 + ((s[i].toNat : Int) - 48))))) := Lib.hid (HW.out.digS (by omega) (by omega) hdg hsep (by rw [hbt]; omega))
          obtain ⟨c11, c12⟩ := c1
          clear hf hbt HBT hdg HG HP HG1
          generalize nst s i (sep i) = N at *
          generalize sep i = K at *
          have b2 : decide ((s[i].toNat : Int) < 48) = false := by simp; omega
          have b2' : decide (s[i].toNat < 48) = false := by simp; omega
          have b3 : decide ((57 : Int) < (s[i].toNat : Int)) = false := by simp; omega
          have b3' : decide (57 < s[i].toNat) = false := by simp; omega
          go_wp2
          go_region
          all_goals go_wp2
          all_goals go_region
          all_goals
            go_wp2
            go_roundw
            case rel => exact ⟨i + 1, by omega, by rw [HS.out], by go_num, HG2, HP2, Lib.hid (HY.out.drew.drew)⟩
            case measure => simp [intOf]; omega
        · have hp : p = i := by
            have h := HP.out
            rw [badF_bad (fun g => by
              rcases g.2 with ⟨_, g2⟩ | ⟨g1, _⟩
              · rw [hbt] at g2; exact c1 g2
              · rw [hdg] at g1; cases g1) hi27] at h
            exact (Option.some.inj h).symm
          have y0 := HW.out.r0
          have y1 := HW.out.r1
          have z0 := HW.out.f0
          have z1 := HW.out.f1
          have e0 : wr.cell? ⟨3, 0, none⟩ = some (.iface 225 (.pointer (some (ad 0)))) := (HE.out.below HW.out.bel).1 0 (by decide)
          have hgl : 3 < w.heap.size := cell_lt (HE.out.1 0 (by decide))
          have hrl : w.heap.size < wr.heap.size := cell_lt y0
          have hne : ¬ 3 = w.heap.size := by omega
          have hne' : ¬ w.heap.size = 3 := by omega
          have hnr : ¬ w.heap.size = wr.heap.size := by omega
          clear hz hzf hn hsep HG
          have HPI := Lib.hid hp
          clear hp HP hbt HBT hdg
          rcases Nat.lt_or_ge s[i].toNat 48 with c2 | c2
          · have b2 : decide ((s[i].toNat : Int) < 48) = true := by simp; omega
            have b2' : decide (s[i].toNat < 48) = true := by simp; omega
            clear c1
            go_wp2
            go_region
            all_goals go_wp2
            all_goals go_region
            all_goals
              go_wp2
              obtain ⟨WF, hW, v0, v1, v2, v3, hbw⟩ := HW.out.fault (Nat.le_refl _) hrl (.int .i64 (min (i : Int) (s.size : Int))) (.iface 225 (.pointer (some (ad 0))))
              rw [hW]
              refine bodyPost_ret (v := .tuple #[.agg #[.int .i64 0, .int .i64 0], faultV wr.heap.size]) ?_ rfl ?_
              · simp [results, Tryd.results25, go_sem, v0, v1, faultV]
              · have hzz : ((min p s.size : Nat) : Int) = min (i : Int) (s.size : Int) := by rw [HPI.out]; omega
                exact ⟨wr.heap.size, by omega, rfl, by rw [hzz]; exact v2, v3, hbw⟩
          · have c3 : 57 < s[i].toNat := by omega
            have b2 : decide ((s[i].toNat : Int) < 48) = false := by simp; omega
            have b2' : decide (s[i].toNat < 48) = false := by simp; omega
            have b3 : decide ((57 : Int) < (s[i].toNat : Int)) = true := by simp; omega
            have b3' : decide (57 < s[i].toNat) = true := by simp; omega
            clear c1
            go_wp2
            go_region
            all_goals go_wp2
            all_goals go_region
            all_goals
              go_wp2
              obtain ⟨WF, hW, v0, v1, v2, v3, hbw⟩ := HW.out.fault (Nat.le_refl _) hrl (.int .i64 (min (i : Int) (s.size : Int))) (.iface 225 (.pointer (some (ad 0))))
              rw [hW]
              refine bodyPost_ret (v := .tuple #[.agg #[.int .i64 0, .int .i64 0], faultV wr.heap.size]) ?_ rfl ?_
              · simp [results, Tryd.results25, go_sem, v0, v1, faultV]
              · have hzz : ((min p s.size : Nat) : Int) = min (i : Int) (s.size : Int) := by rw [HPI.out]; omega
                exact ⟨wr.heap.size, by omega, rfl, by rw [hzz]; exact v2, v3, hbw⟩
      | false =>
        obtain ⟨g1, g2⟩ := sigF_ne i
        have hf : fpF i = sigF i := by unfold fpF; rw [hdg]; rfl
        rw [hf] at hix
        unfold formP at hix
        have HSG : Hid (goodAt s i → bt s i = sigF i) := Lib.hid (fun g => by
          rcases g.2 with ⟨g1, _⟩ | ⟨_, g2⟩
          · rw [hdg] at g1; cases g1
          · exact g2)
        by_cases c1 : s[i].toNat = sigF i
        · have HG1 : Hid (goodAt s i) := Lib.hid ⟨cl, Or.inr ⟨hdg, by rw [hbt]; exact c1⟩⟩
          have HG2 : Hid (∀ j, j < i + 1 → goodAt s j) := Lib.hid (fun j hj => by
            rcases Nat.lt_or_ge j i with h | h
            · exact HG.out j h
            · rw [show j = i by omega]; exact HG1.out)
          have HP2 : Hid (badF s (27 - (i + 1)) (i + 1) = some p) := Lib.hid (by rw [← badF_good HG1.out hi27]; exact HP.out)
          have HS : Hid (sep (i + 1) = sep i + 1) := Lib.hid (sep_s hdg)
          have HY : Hid (Row7 w1.heap.size w.heap.size s (i + 1) w wr) := Lib.hid (HW.out.sepS hdg)
          clear hf hbt HBT hdg HG HP HG1 HSG hz hzf hn
          generalize sep i = K at *
          generalize sigF i = C at *
          have q1 : ((C : Int) != 48) = true := by simp; omega
          have q2 : ((C : Int) == 48) = false := by simp; omega
          have q3 : ((s[i].toNat : Int) != (C : Int)) = false := by simp; omega
          go_wp2
          go_region
          all_goals
            go_wp2
            go_roundw
            case rel => exact ⟨i + 1, by omega, by rw [HS.out]; go_num, by go_num, HG2, HP2, Lib.hid HY.out.drew⟩
            case measure => simp [intOf]; omega
        · have hp : p = i := by
            have h := HP.out
            rw [badF_bad (fun g => c1 (by rw [← hbt]; exact HSG.out g)) hi27] at h
            exact (Option.some.inj h).symm
          have y0 := HW.out.r0
          have y1 := HW.out.r1
          have z0 := HW.out.f0
          have z1 := HW.out.f1
          have e0 : wr.cell? ⟨3, 0, none⟩ = some (.iface 225 (.pointer (some (ad 0)))) := (HE.out.below HW.out.bel).1 0 (by decide)
          have hgl : 3 < w.heap.size := cell_lt (HE.out.1 0 (by decide))
          have hrl : w.heap.size < wr.heap.size := cell_lt y0
          have hne : ¬ 3 = w.heap.size := by omega
          have hne' : ¬ w.heap.size = 3 := by omega
          have hnr : ¬ w.heap.size = wr.heap.size := by omega
          clear hz hzf hn hsep HG
          have HPI := Lib.hid hp
          clear hp HP hbt HBT hdg HSG hf
          generalize sigF i = C at *
          have q1 : ((C : Int) != 48) = true := by simp; omega
          have q2 : ((C : Int) == 48) = false := by simp; omega
          have q3 : ((s[i].toNat : Int) != (C : Int)) = true := by simp; omega
          go_wp2
          go_region
          all_goals go_wp2
          all_goals go_region
          all_goals
            go_wp2
            obtain ⟨WF, hW, v0, v1, v2, v3, hbw⟩ := HW.out.fault (Nat.le_refl _) hrl (.int .i64 (min (i : Int) (s.size : Int))) (.iface 225 (.pointer (some (ad 0))))
            rw [hW]
            refine bodyPost_ret (v := .tuple #[.agg #[.int .i64 0, .int .i64 0], faultV wr.heap.size]) ?_ rfl ?_
            · simp [results, Tryd.results25, go_sem, v0, v1, faultV]
            · have hzz : ((min p s.size : Nat) : Int) = min (i : Int) (s.size : Int) := by rw [HPI.out]; omega
              exact ⟨wr.heap.size, by omega, rfl, by rw [hzz]; exact v2, v3, hbw⟩
    · have hp : p = i := by
        have h := HP.out
        rw [badF_bad (fun g => cl g.1) hi27] at h
        exact (Option.some.inj h).symm
      have b1 : decide ((s.size : Int) ≤ (i : Int)) = true := by simp; omega
      have b1' : decide (s.size ≤ i) = true := by simp; omega
      have y0 := HW.out.r0
      have y1 := HW.out.r1
      have z0 := HW.out.f0
      have z1 := HW.out.f1
      have e0 : wr.cell? ⟨3, 0, none⟩ = some (.iface 225 (.pointer (some (ad 0)))) := (HE.out.below HW.out.bel).1 0 (by decide)
      have hgl : 3 < w.heap.size := cell_lt (HE.out.1 0 (by decide))
      have hrl : w.heap.size < wr.heap.size := cell_lt y0
      have hne : ¬ 3 = w.heap.size := by omega
      have hne' : ¬ w.heap.size = 3 := by omega
      have hnr : ¬ w.heap.size = wr.heap.size := by omega
      clear hz hzf hn hsep HG
      have HPI := Lib.hid hp
      clear hp HP hix
      go_wp2
      go_region
      all_goals go_wp2
      all_goals go_region
      all_goals
        go_wp2
        obtain ⟨WF, hW, v0, v1, v2, v3, hbw⟩ := HW.out.fault (Nat.le_refl _) hrl (.int .i64 (min (i : Int) (s.size : Int))) (.iface 225 (.pointer (some (ad 0))))
        rw [hW]
        refine bodyPost_ret (v := .tuple #[.agg #[.int .i64 0, .int .i64 0], faultV wr.heap.size]) ?_ rfl ?_
        · simp [results, Tryd.results25, go_sem, v0, v1, faultV]
        · have hzz : ((min p s.size : Nat) : Int) = min (i : Int) (s.size : Int) := by rw [HPI.out]; omega
          exact ⟨wr.heap.size, by omega, rfl, by rw [hzz]; exact v2, v3, hbw⟩
end Go.Proofs.YtjdjncfpcbeedaaDoor
