/- Plain: sums and products do not hang on the order or the grouping of their parts, and do not fall where a part grows; for all numbers. -/
import Derived.Test.YtgkgafahkbibbaaSat
namespace Go.Proofs.Ytgkgafahkbibbaa.Pure
open Go.RowKit Go.Proofs.Ytgkgafahkbibbaa.PAll Go.Proofs.YtgkgafahkbibbaaW.PrintWords Go.Proofs.YtgkgafahkbibbaaW.PrintLast Go.Proofs.Ytgkgafahkbibbaa.Sat

theorem TallyOrders : winklelaw01_TallyOrders.Pure := by
  intro a b c w0 w1 w2
  have ha : Rg a := u64_of w0
  have hb : Rg b := u64_of w1
  have hc : Rg c := u64_of w2
  have hab : 0 ≤ a * b := Int.mul_nonneg ha.1 hb.1
  have hbc : 0 ≤ b * c := Int.mul_nonneg hb.1 hc.1
  have rab := satN_range (x := a + b) (by have := ha.1; have := hb.1; omega)
  have rbc := satN_range (x := b + c) (by have := hc.1; have := hb.1; omega)
  have rac := satN_range (x := a + c) (by have := ha.1; have := hc.1; omega)
  have mab := satN_range hab
  have mbc := satN_range hbc
  have e1 : satN (satN (a + b) + c) = satN (a + satN (b + c)) := by
    rw [satN_add_l _ _ (by have := ha.1; have := hb.1; omega) hc.1, Int.add_comm a (satN (b + c)), satN_add_l _ _ (by have := hc.1; have := hb.1; omega) ha.1]
    congr 1; omega
  have e2 : satN (satN (a * b) * c) = satN (a * satN (b * c)) := by
    rw [satN_mul_l _ _ hab hc.1, Int.mul_comm a (satN (b * c)), satN_mul_l _ _ hbc ha.1, Int.mul_comm (b * c) a, Int.mul_assoc]
  have g1 : satN (satN (a + c) + b) ≥ satN (a + b) := by
    rw [satN_add_l _ _ (by have := ha.1; have := hc.1; omega) hb.1]
    exact satN_mono (by have := hc.1; omega)
  have g2 : satN (satN (a + c) * b) ≥ satN (a * b) := by
    rw [satN_mul_l _ _ (by have := ha.1; have := hc.1; omega) hb.1, Int.add_mul]
    exact satN_mono (by have := Int.mul_nonneg hc.1 hb.1; omega)
  have z0 : Rg 0 := ⟨by omega, by omega⟩
  have z1 : Rg 1 := ⟨by omega, by omega⟩
  refine ⟨1, ?_⟩
  unfold winklelaw01_TallyOrders.f
  rw [add_f a b ha hb, add_f b a hb ha, times_f a b ha hb, times_f b a hb ha]
  simp only [Option.bind_some]
  rw [Int.add_comm b a, Int.mul_comm b a, if_pos rfl, if_pos rfl]
  rw [add_f b c hb hc, times_f b c hb hc]
  simp only [Option.bind_some]
  rw [add_f _ c rab hc, add_f a _ ha rbc]
  simp only [Option.bind_some]
  rw [if_pos e1, times_f _ c mab hc]
  simp only [Option.bind_some]
  rw [times_f a _ ha mbc]
  simp only [Option.bind_some]
  simp only [winklelaw01_TallyOrders.j0]
  rw [if_neg (by rw [e2]; simp), add_f a c ha hc]
  simp only [Option.bind_some]
  rw [add_f _ b rac hb, add_f a b ha hb]
  simp only [Option.bind_some]
  rw [if_pos g1, times_f _ b rac hb, times_f a b ha hb]
  simp only [Option.bind_some]
  rw [if_pos g2, add_f a 0 ha z0, times_f a 1 ha z1, times_f a 0 ha z0]
  simp only [Option.bind_some, Int.add_zero, Int.mul_one, Int.mul_zero]
  rw [satN_id ha, satN_id z0]
  simp only [if_true]
  rw [decide_eq_true]
  exact Int.le_trans (Int.le_of_eq (satN_id ha).symm) (satN_mono (by have := hb.1; omega))
end Go.Proofs.Ytgkgafahkbibbaa.Pure
