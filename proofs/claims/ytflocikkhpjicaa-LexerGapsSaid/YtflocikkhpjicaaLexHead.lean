/- The laws' head: the fixed examples answer as they say. -/
import Derived.Test.YtflocikkhpjicaaPx3
namespace Go.Proofs.Ytflocikkhpjicaa.Pure
open Go.RowKit Go.Proofs.Ytflocikkhpjicaa.P Go.Proofs.YtflocikkhpjicaaW.PrintWords Go.Proofs.YtflocikkhpjicaaW.PrintLast
theorem ex1 : lexer_Lex.f (⟨#[119, 97, 121, 32, 119, 49, 32, 55, 45, 34, 97, 92, 34, 98, 34, 35, 32, 121]⟩ : ByteArray) = some ([⟨1, ⟨#[119, 97, 121]⟩, 0⟩, ⟨1, ⟨#[119, 49]⟩, 4⟩, ⟨2, ⟨#[55]⟩, 7⟩, ⟨4, ⟨#[45]⟩, 8⟩, ⟨3, ⟨#[97, 34, 98]⟩, 9⟩], 0, 0) := by kernel_rfl
theorem ex2 : lexer_Lex.f (⟨#[97, 32, 33, 98]⟩ : ByteArray) = some ([], 3, 2) := by kernel_rfl
theorem ex3 : lexer_Lex.f (⟨#[55, 120]⟩ : ByteArray) = some ([], 4, 0) := by kernel_rfl
theorem ex4 : lexer_Lex.f (⟨#[97, 32, 34, 98]⟩ : ByteArray) = some ([], 3, 2) := by kernel_rfl
theorem ex5 : lexer_Lex.f (⟨#[10, 97, 98, 99, 100, 101, 102, 103, 104, 105, 106, 107, 108, 109, 110, 111, 112, 113, 114, 115, 116, 117, 118, 119, 120, 121]⟩ : ByteArray) = some ([], 2, 1) := by kernel_rfl
theorem ex6 : lexer_Name.f (⟨#[97, 95, 49]⟩ : ByteArray) = some true := by kernel_rfl
theorem ex7 : lexer_Name.f (⟨#[49, 97]⟩ : ByteArray) = some false := by kernel_rfl
theorem ex8 : lexer_Name.f (⟨#[]⟩ : ByteArray) = some false := by kernel_rfl
theorem ex9 : lexer_Quote.f (⟨#[97, 10, 92]⟩ : ByteArray) = some ⟨#[34, 97, 92, 110, 92, 92, 34]⟩ := by kernel_rfl
theorem head_true (k : Nat) : planispherelaw08_head.f (k + 2) = some true := by
  unfold planispherelaw08_head.f
  rw [ex1, ex2, ex3, ex4, ex5]
  simp only [Option.bind_some, planispherelaw08_head.j0, planispherelaw08_head.j1, ex6, ex7, ex8, ex9, ByteArray.toList_eq]
  rfl
end Go.Proofs.Ytflocikkhpjicaa.Pure
