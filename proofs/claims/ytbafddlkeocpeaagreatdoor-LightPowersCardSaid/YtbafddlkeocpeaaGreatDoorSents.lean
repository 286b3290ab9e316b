/- Sentinels that a row lists: their addresses, each in a row of its own, no two alike. -/
import Derived.Test.YtbafddlkeocpeaaGreatDoorCode
import Derived.Stop.LaidErr
import Derived.LaidLaws
namespace Go.Proofs.YtbafddlkeocpeaaGreatDoor
open Go.RowKit Go.ChangeShapes

theorem star : "*" ++ "errors.errorString" = "*errors.errorString" := by decide
theorem rowE (u : TypeId) (h : Tryz.prog.typeName? 3 u = some "*errors.errorString") : u = 278 :=
  typeName_ptr_named (nm := "errors.errorString") (by rw [star]; kernel_rfl) (by kernel_rfl) (by decide) u (by rw [star]; exact h)
theorem cellsE : Tryz.prog.cellsOf 303 = 1 := by kernel_rfl
theorem cellsS : Tryz.prog.cellsOf 9 = 1 := by kernel_rfl

def laidOf (x : String × List UInt8) : String × DataW Unit := (x.1, .iface "*errors.errorString" (.ptr (.agg [.lit (.string x.2)])))

set_option maxRecDepth 100000 in
theorem sents_list {W : World} : ∀ (l : List (String × List UInt8)) (ps : List MemPlace), DataW.LaidVars Tryz.prog W (l.map laidOf) ps →
    (∀ x, x ∈ l → ∃ g, Tryz.prog.globalNamed x.1 = some g ∧ (Tryz.prog.globals[g]?).map (·.type) = some 25) →
    (∀ b off, MemPlace.cell b off ∈ ps → (∃ c t, W.heap[b]? = some (.cells c t (0, 0))) ∧ ∀ u v, W.cell? ⟨b, off, none⟩ = some (.iface u v) → Value.okWide Tryz.prog W .any 0 u v) →
    ∃ al : List Addr, al.length = l.length ∧ (al.map fun a => MemPlace.cell a.block a.off).Sublist ps ∧ ∀ i (h : i < l.length), ∃ a, al[i]? = some a ∧ W.var? Tryz.prog (l[i]'h).1 = some #[.iface 278 (.pointer (some a))]
  | [], ps, _, _, _ => ⟨[], rfl, List.nil_sublist _, fun i h => absurd h (Nat.not_lt_zero _)⟩
  | x :: r, ps, hv, hg, hok => by
    obtain ⟨g0, t0, cs0, f0, p0, q0, hg0, ht0, hv0, hd0, hq, rfl⟩ := hv
    obtain ⟨g, h1, h2⟩ := hg x (List.mem_cons_self ..)
    obtain rfl := Option.some.inj (h1.symm.trans hg0)
    obtain rfl := Option.some.inj (h2.symm.trans ht0)
    obtain ⟨l0⟩ := cs0
    have ok0 : ∀ u v, l0 = [.iface u v] → Value.okWide Tryz.prog W .any 0 u v := fun u v e => by
      subst e
      exact (hok g 0 (by simp [MemPlace.row])).2 u v (by simpa using World.var?_cell h1 hv0 0)
    obtain ⟨a0, s0, rfl, hc0, _, _, rfl⟩ := errorString_of_trod Tryz.underlying25 rowE Tryz.underlying278 Tryz.underlying303 rfl rfl Tryz.underlying9 cellsE cellsS hd0 ok0
    obtain ⟨al, hl, hsub, hat⟩ := sents_list r q0 hq (fun y hy => hg y (List.mem_cons_of_mem _ hy)) (fun b off hm => hok b off (List.mem_append_right _ hm))
    refine ⟨a0 :: al, by simp [hl], ?_, ?_⟩
    · have e : MemPlace.row a0 1 = [MemPlace.cell a0.block a0.off] := by simp [MemPlace.row]
      rw [e, List.append_assoc]
      exact (List.Sublist.cons_cons _ hsub).trans (List.sublist_append_right _ _)
    · intro i h
      cases i with
      | zero => exact ⟨a0, rfl, hv0⟩
      | succ i =>
        obtain ⟨a, h3, h4⟩ := hat i (by simpa using h)
        exact ⟨a, by simpa using h3, by simpa using h4⟩

/-- The ten, in the errors' order. -/
theorem sents_ten {W : World} {l : List (String × List UInt8)} (h : laidMet Tryz.prog (l.map laidOf) W) (hl : l.length = 10)
    (hg : ∀ i (h : i < l.length), Tryz.prog.globalNamed (l[i]'h).1 = some (errG i) ∧ (Tryz.prog.globals[errG i]?).map (·.type) = some 25)
    (hh : W.cell? ⟨11, 0, none⟩ = some (.iface 103 (.agg #[.pointer (some ⟨27, 25, none⟩)]))) : ∃ ad, Sents W ad := by
  obtain ⟨ps, hv, hnd, hok⟩ := h
  obtain ⟨al, hal, hsub, hat⟩ := sents_list l ps hv (fun x hx => by
    obtain ⟨i, hi, rfl⟩ := List.getElem_of_mem hx
    exact ⟨errG i, hg i hi⟩) hok
  have hnd2 := List.Nodup.sublist hsub hnd
  refine ⟨fun i => (al[i]?).getD ⟨0, 0, none⟩, ?_, ?_, ?_, hh⟩
  · intro i hi
    obtain ⟨a, h1, h2⟩ := hat i (by omega)
    have := World.var?_cell (hg i (by omega)).1 h2 0
    simpa [errV, h1] using this
  · intro i hi
    obtain ⟨a, h1, _⟩ := hat i (by omega)
    have hm : MemPlace.cell a.block a.off ∈ ps := hsub.subset (List.mem_map.2 ⟨a, List.mem_of_getElem? h1, rfl⟩)
    obtain ⟨c, t, e⟩ := (hok _ _ hm).1
    exact ⟨c, t, by simpa [h1] using e⟩
  · intro i j hi hj e
    obtain ⟨a, h1, _⟩ := hat i (by omega)
    obtain ⟨b, h2, _⟩ := hat j (by omega)
    simp only [h1, h2, Option.getD_some] at e
    subst e
    have m1 : (al.map fun a => MemPlace.cell a.block a.off)[i]? = some (MemPlace.cell a.block a.off) := by simp [h1]
    have m2 : (al.map fun a => MemPlace.cell a.block a.off)[j]? = some (MemPlace.cell a.block a.off) := by simp [h2]
    exact (List.getElem?_inj (by simp; omega) hnd2).1 (m1.trans m2.symm)
end Go.Proofs.YtbafddlkeocpeaaGreatDoor
