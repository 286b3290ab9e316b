/- Find's own order handed to the library's stable sort. -/
import Derived.Test.YthbekddpnkammaaGreatDoorPlc
import Derived.Test.YthbekddpnkammaaGreatDoorStb5
namespace Go.Proofs.YthbekddpnkammaaGreatDoor
open Go.Shelf Go.RowKit Go.Lib Go.Sort

theorem isNaN_any (a : Int) (w : World) : Calls Tryz.prog 62 #[.int .i64 a] w fun e w' => e = .returned (.bool false) ∧ w' = w := by
  have b : (a != a) = false := by simp
  go_enter Tryz.func62, Tryz.ntmps62
  go_wp2
  go_ret
  exact ⟨rfl, rfl⟩
theorem compare_any (a b : Int) (w : World) : Calls Tryz.prog 25 #[.int .i64 a, .int .i64 b] w fun e w' => e = .returned (.int .i64 (Lib.compareInt a b)) ∧ w' = w := by
  have H1 := Lib.hid (isNaN_any a w)
  have H2 := Lib.hid (isNaN_any b w)
  have HC : Hid (Lib.compareInt a b = if a < b then -1 else if b < a then 1 else 0) := Lib.hid rfl
  rw [HC.out]
  by_cases c1 : a < b
  · rw [if_pos c1]
    go_enter Tryz.func25, Tryz.ntmps25
    go_wp2_with fail
    refine H1.out.mono ?_; rintro e w1 ⟨rfl, rfl⟩
    go_wp2_with fail
    refine H2.out.mono ?_; rintro e w2 ⟨rfl, rfl⟩
    go_wp2
    go_ret
    exact ⟨rfl, rfl⟩
  · rw [if_neg c1]
    by_cases c2 : b < a
    · rw [if_pos c2]
      go_enter Tryz.func25, Tryz.ntmps25
      go_wp2_with fail
      refine H1.out.mono ?_; rintro e w1 ⟨rfl, rfl⟩
      go_wp2_with fail
      refine H2.out.mono ?_; rintro e w2 ⟨rfl, rfl⟩
      go_wp2
      go_ret
      exact ⟨rfl, rfl⟩
    · rw [if_neg c2]
      go_enter Tryz.func25, Tryz.ntmps25
      go_wp2_with fail
      refine H1.out.mono ?_; rintro e w1 ⟨rfl, rfl⟩
      go_wp2_with fail
      refine H2.out.mono ?_; rintro e w2 ⟨rfl, rfl⟩
      go_wp2
      go_ret
      exact ⟨rfl, rfl⟩
def encT (x : Sp × Nat) : List Value := encSp x.1
theorem cmp2_any (x y : Sp) (w : World) : Calls Tryz.prog 57 #[aggSp x, aggSp y] w fun e w' => e = .returned (.int .i64 (Lib.compareInt y.Li x.Li)) ∧ ∃ q os', w' = grow (w.drewN q) os' := by
  have HC := Lib.hid (fun w' => compare_any y.Li x.Li w')
  generalize Lib.compareInt y.Li x.Li = r at *
  unfold aggSp
  obtain ⟨xL, xT, xR, xO, xP, xI, xX, xY, xS⟩ := x
  obtain ⟨yL, yT, yR, yO, yP, yI, yX, yY, yS⟩ := y
  go_enter Tryz.func57, Tryz.ntmps57
  go_wp2_with fail
  refine (HC.out _).mono ?_; rintro e w1 ⟨rfl, rfl⟩
  go_wp2
  go_ret
  exact ⟨rfl, 0, _, by rw [alloc_eq_grow, alloc_eq_grow, grow_grow]; rfl⟩
theorem encT_one (x : Sp × Nat) : ∀ v ∈ encT x, v.oneCell' = true := by
  intro v hv
  unfold encT encSp at hv
  simp only [List.mem_cons, List.not_mem_nil, or_false] at hv
  rcases hv with rfl | rfl | rfl | rfl | rfl | rfl | rfl | rfl | rfl
  all_goals rfl
theorem cmp_lays (blk off n : Nat) (w : World) : CmpLays Tryz.prog 57 #[] encT 9 (fun x y => Lib.compareInt (kLi y) (kLi x)) blk off n w := fun _ _ _ _ x y => cmp2_any x.1 y.1 _
theorem enc_fld (s : Sp) {c : Nat} (hc : c < 9) : (encSp s)[c]! = .int .i64 (s.fld c) := by
  rcases c with _ | _ | _ | _ | _ | _ | _ | _ | _ | c
  case succ.succ.succ.succ.succ.succ.succ.succ.succ => omega
  all_goals rfl
/-- A row of spots, as the sort has it. -/
theorem holds_of {w : World} {g n : Nat} {F : Nat → Sp} {d : Array (Sp × Nat)} (hs : d.size = n) (h : OutZ w g (n * 9) (cellZ F)) (hd : ∀ p, p < n → (d[p]!).1 = F p) : HoldsK encT 9 w g 0 d := by
  intro j hj
  rw [size_flatK, hs] at hj
  obtain ⟨h1, h2⟩ := h j hj
  rw [Nat.zero_add]
  refine ⟨?_, h2⟩
  rw [h1, get_flatK _ _ _ _ (by rw [hs]; exact hj)]
  unfold encT cellZ
  rw [enc_fld _ (Nat.mod_lt _ (by decide)), hd (j / 9) (by omega)]
  rfl
theorem of_holds {w : World} {g n : Nat} {d : Array (Sp × Nat)} (hs : d.size = n) (h : HoldsK encT 9 w g 0 d) : OutZ w g (n * 9) (cellZ fun p => (d[p]!).1) := by
  intro j hj
  have h1 := h j (by rw [size_flatK, hs]; exact hj)
  rw [Nat.zero_add, get_flatK _ _ _ _ (by rw [hs]; exact hj)] at h1
  unfold encT at h1
  rw [enc_fld _ (Nat.mod_lt _ (by decide))] at h1
  exact h1
theorem below_sortWorld {enc : Sp × Nat → List Value} {w : World} {g : Nat} {d : Array (Sp × Nat)} {w' : World} (h : SWK enc 9 w g 0 d w') (hgw : g < w.heap.size) : Below g w w' := by
  obtain ⟨n, os, rfl⟩ := h
  unfold sortWorldK putRowK putRow grow mapBlock
  refine ⟨rfl, rfl, rfl, ?_, fun k hk => ?_⟩
  · show w.heap.size ≤ ((Go.Sort.ahead w n).heap.modify g _ ++ os).size
    rw [Array.size_append, Array.size_modify]
    exact Nat.le_add_right _ _
  · show ((Go.Sort.ahead w n).heap.modify g _ ++ os)[k]? = _
    rw [Array.getElem?_append_left (by rw [Array.size_modify]; show k < w.heap.size; omega), Array.getElem?_modify, if_neg (by omega)]
    rfl
/-- Spots and their places. -/
def tagA (n : Nat) (F : Nat → Sp) : Array (Sp × Nat) := ((List.range n).map fun p => (F p, p)).toArray
theorem tagA_size (n : Nat) (F : Nat → Sp) : (tagA n F).size = n := by simp [tagA]
theorem tagA_get (n : Nat) (F : Nat → Sp) {p : Nat} (h : p < n) : (tagA n F)[p]! = (F p, p) := by
  unfold tagA
  rw [List.getElem!_toArray, List.getElem!_eq_getElem?_getD, List.getElem?_map, List.getElem?_range h]
  rfl
/-- The stable sort of spots by light. -/
theorem sortSp_any (F : Nat → Sp) (g n cap : Nat) (hn : n ≤ 100000) (w : World) (hg : g < w.heap.size) (h : OutZ w g (n * 9) (cellZ F)) :
    Calls Tryz.prog 56 #[.slice (some ⟨g, 0, none⟩) n cap, .func (.func 57) #[] #[]] w fun e w' =>
      e = .returned (.tuple #[]) ∧ OutZ w' g (n * 9) (cellZ fun p => (placeAll ((List.range n).map F)).getD p Sp.nil) ∧ (placeAll ((List.range n).map F)).length = n ∧ Below g w w' := by
  have hsz := tagA_size n F
  have hH : HoldsK encT 9 w g 0 (tagA n F) := holds_of hsz h (fun p hp => by rw [tagA_get n F hp])
  have R : SR Tryz.prog 9 encT kLi 57 #[] g 0 (tagA n F) w := ⟨⟨fun _ => rfl, encT_one, hH, hg⟩, fun args w => Tryz.call57 args w, cmp_lays g 0 _ w, by rw [hsz]; exact hn⟩
  have hc := sortStable_any (tag := kTg) srtL R cap (fun p hp => by rw [hsz] at hp; rw [tagA_get n F hp]; rfl)
  rw [hsz] at hc
  refine hc.mono fun e w' ⟨he, d', hS, hP, hO⟩ => ⟨he, ?_⟩
  have hd : d'.size = n := by rw [hP.1, hsz]
  have hperm : d'.toList.Perm ((List.range n).map fun p => (F p, p)) := by
    have := hP.2.2
    rw [show d'.extract 0 n = d' by have h := Array.extract_size (xs := d'); rwa [hd] at h, show (tagA n F).extract 0 n = tagA n F by have h := Array.extract_size (xs := tagA n F); rwa [hsz] at h] at this
    simpa [tagA] using this
  have hlist : d'.toList.map Prod.fst = placeAll ((List.range n).map F) := by
    have e1 : ((List.range n).map fun p => (F p, p)).map Prod.fst = (List.range n).map F := by rw [List.map_map]; rfl
    rw [← e1]
    refine placed_one ?_ hperm ?_
    · rw [List.pairwise_map]
      exact List.pairwise_lt_range
    · rw [List.pairwise_iff_getElem]
      intro i j hi hj hij
      rw [Array.length_toList] at hi hj
      have h1 := hO i j (Nat.zero_le _) hij (by omega)
      have h2 : (d'.toList.map Prod.snd).Nodup := by
        refine (hperm.map Prod.snd).nodup_iff.2 ?_
        rw [List.map_map, show (Prod.snd ∘ fun p : Nat => (F p, p)) = id from rfl, List.map_id]
        exact List.nodup_range
      have h3 : (d'.toList[i]).2 ≠ (d'.toList[j]).2 := fun e => by
        have k := (List.pairwise_iff_getElem.1 h2) i j (by rw [List.length_map, Array.length_toList]; exact hi) (by rw [List.length_map, Array.length_toList]; exact hj) hij
        rw [List.getElem_map, List.getElem_map] at k
        exact k e
      rw [getElem!_pos d' i hi, getElem!_pos d' j hj, ahd_no] at h1
      rw [Array.getElem_toList, Array.getElem_toList] at h3 ⊢
      refine before_iff.2 ?_
      unfold kLi kTg at h1
      omega
  refine ⟨?_, by rw [← hlist, List.length_map, Array.length_toList]; exact hd, below_sortWorld hS hg⟩
  refine (of_holds hd (hS.holds hg hH (by rw [hd, hsz]))).congr (fun j hj => ?_)
  unfold cellZ
  have hj9 : j / 9 < d'.size := by omega
  show ((d'[j / 9]!).1).fld (j % 9) = ((placeAll ((List.range n).map F)).getD (j / 9) Sp.nil).fld (j % 9)
  rw [← hlist, getElem!_pos d' (j / 9) hj9]
  show _ = (((d'.toList.map Prod.fst).getD (j / 9) Sp.nil).fld (j % 9))
  rw [List.getD_eq_getElem?_getD, List.getElem?_map, List.getElem?_eq_getElem (by rw [Array.length_toList]; exact hj9)]
  rfl
end Go.Proofs.YthbekddpnkammaaGreatDoor
