/- Plain: any field is the number that the document's answer says, or none: octal, binary, and either kind; for every list of bytes. -/
import Derived.Test.YtlomhifacokgmaaNum
namespace Go.Proofs.Ytlomhifacokgmaa.Pure
open Go.RowKit Go.Proofs.Ytlomhifacokgmaa.PAll Go.Proofs.YtlomhifacokgmaaW.PrintWords Go.Proofs.YtlomhifacokgmaaW.PrintLast Go.Proofs.Ytlomhifacokgmaa.Num

theorem NumberReads : winklelaw05_NumberReads.Pure := by
  intro l h1 h2 h3
  have hb := bytes_of h3
  have hl : (l.length : Int) ≤ 140737488355328 := by omega
  have h1 : number_Field.f (4 * l.length + 20) [49] = some (fieldF [49]) := numField [49] (by intro x hx; simp at hx; omega) (by decide) _ (by simp)
  refine ⟨4 * l.length + 20, ?_⟩
  unfold winklelaw05_NumberReads.f
  rw [refOctal l hl _ (by omega), numBin l hb hl _ (by omega), refBin l hb hl _ (by omega), numField l hb hl _ (by omega), refField l hb hl _ (by omega), h1]
  rw [octal_f]
  unfold octRes
  simp [fieldF, octW]
end Go.Proofs.Ytlomhifacokgmaa.Pure
