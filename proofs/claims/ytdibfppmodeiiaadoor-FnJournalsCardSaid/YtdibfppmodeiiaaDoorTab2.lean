/- What the listed variables give the walks: the sentinels. -/
import Derived.Test.YtdibfppmodeiiaaDoorTab
import Derived.Test.YtdibfppmodeiiaaDoorRd
import Derived.Stop.LaidErr
namespace Go.Proofs.YtdibfppmodeiiaaDoor
open Go.RowKit
set_option linter.unusedVariables false
theorem gES : Tryd.prog.globalNamed "strconv.ErrSyntax" = some 1 := by kernel_rfl
theorem gER : Tryd.prog.globalNamed "strconv.ErrRange" = some 2 := by kernel_rfl
theorem tES : (Tryd.prog.globals[1]?).map (·.type) = some 84 := by kernel_rfl
theorem tER : (Tryd.prog.globals[2]?).map (·.type) = some 84 := by kernel_rfl
theorem starES : "*" ++ "errors.errorString" = "*errors.errorString" := by decide
theorem rowES (u : TypeId) (h : Tryd.prog.typeName? 3 u = some "*errors.errorString") : u = 118 :=
  typeName_ptr_named (nm := "errors.errorString") (by rw [starES]; kernel_rfl) (by kernel_rfl) (by decide) u (by rw [starES]; exact h)
theorem cES : Tryd.prog.cellsOf 120 = 1 := by kernel_rfl
theorem cStr : Tryd.prog.cellsOf 9 = 1 := by kernel_rfl
theorem jenv_of_laid {a b : String × DataW Unit} {rest : List (String × DataW Unit)} {W : World} (h : laidMet Tryd.prog (a :: b :: ("internal/strconv.uint64pow10", Rows.laid_internal_strconv_uint64pow10) :: ("strconv.ErrRange", Rows.laid_strconv_ErrRange) :: ("strconv.ErrSyntax", Rows.laid_strconv_ErrSyntax) :: rest) W) : JEnv W := by
  obtain ⟨h0, h1⟩ := tab_of_laid h
  obtain ⟨a0, s0, hv0, -, -, -⟩ := laid_sentinel h1 gER tER Tryd.underlying84 rowES Tryd.underlying118 Tryd.underlying120 rfl rfl Tryd.underlying9 cES cStr
  obtain ⟨a1, s1, hv1, -, -, -⟩ := laid_sentinel h1.tail gES tES Tryd.underlying84 rowES Tryd.underlying118 Tryd.underlying120 rfl rfl Tryd.underlying9 cES cStr
  exact ⟨h0, ⟨_, _, by have h2 := World.var?_cell gES hv1 0; simpa using h2⟩, ⟨_, _, by have h2 := World.var?_cell gER hv0 0; simpa using h2⟩⟩
end Go.Proofs.YtdibfppmodeiiaaDoor
