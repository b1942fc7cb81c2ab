-- printed for this claim by xprint.py (the seat's own program)
import Derived.Test.YtflocikkhpjicaaWalkLex
import Derived.Test.YtflocikkhpjicaaWalkName
import Derived.Test.YtflocikkhpjicaaWalkQuote
import Derived.Test.YtflocikkhpjicaaPx0
namespace Go.Proofs.Ytflocikkhpjicaa.P
open Go.RowKit Go.Proofs.YtflocikkhpjicaaW.PrintWords Go.Proofs.YtflocikkhpjicaaW.PrintLast Go.Proofs.YtflocikkhpjicaaW.PrintMore
attribute [local go_sem] max2_int min2_int max_two min_two max_three min_three max_four min_four   -- for this text's walks alone
set_option linter.unusedVariables false
set_option linter.unusedSimpArgs false

-- NOT PRINTED: function 43 (bytealg_IndexByteString)

-- NOT PRINTED: function 41 (stringslite_IndexByte)

-- NOT PRINTED: function 39 (strings_IndexByte)

-- NOT PRINTED: function 27 (lexer_classes)

-- NOT PRINTED: function 33 (lexer_tokens_1)

-- NOT PRINTED: function 42 (abi_NoEscape)

-- NOT PRINTED: function 40 (strings_Builder_copyCheck)

-- NOT PRINTED: function 30 (strings_Builder_WriteByte)

-- NOT PRINTED: function 32 (strings_Builder_String)

-- NOT PRINTED: function 35 (lexer_unquoted)

-- NOT PRINTED: function 34 (lexer_tokens_2)

-- NOT PRINTED: function 24 (lexer_tokens)

/-! ### lexer_Lex: function 12, by hand -/
-- EXT planisphere/lexer.Lex making imports=WalkLex
def lexer_Lex.f (a0 : ByteArray) : Option (List S31 × Int × Int) := some (lexR a0)
theorem lexer_Lex.calls (a0 : ByteArray) (r1 : List (S31)) (r2 : Int) (r3 : Int) (w : World) (h : lexer_Lex.f a0 = some (r1, r2, r3)) :
    Calls Try.prog 12 #[.string a0] w fun e w' => ∃ v0_ : Value, e = .returned (.tuple #[v0_, .int .i64 r2, .int .i64 r3]) ∧ Kd.R k31 31 w' w.heap.size (fun _ => True) v0_ r1 ∧ Below w.heap.size w w' := by
  have e := Option.some.inj h
  have h1 : (lexR a0).1 = r1 := congrArg (·.1) e
  have h2 : (lexR a0).2.1 = r2 := congrArg (·.2.1) e
  have h3 : (lexR a0).2.2 = r3 := congrArg (·.2.2) e
  subst h1 h2 h3
  exact lex_any a0 w

/-! ### lexer_Name: function 15, by hand -/
-- EXT planisphere/lexer.Name making imports=WalkName
def lexer_Name.f (a0 : ByteArray) : Option Bool := if a0.size ≤ 140737488351232 then some (Lx.name a0.data.toList) else none
theorem lexer_Name.calls (a0 : ByteArray) (r : Bool) (w : World) (h : lexer_Name.f a0 = some r) :
    Calls Try.prog 15 #[.string a0] w fun e w' => e = .returned (.bool r) ∧ Below w.heap.size w w' := by
  unfold lexer_Name.f at h
  by_cases c : a0.size ≤ 140737488351232
  · rw [if_pos c] at h; cases h; exact name_any a0 w c
  · rw [if_neg c] at h; cases h

-- NOT PRINTED: function 31 (strings_Builder_WriteString)

/-! ### lexer_Quote: function 17, by hand -/
-- EXT planisphere/lexer.Quote making imports=WalkQuote
def lexer_Quote.f (a0 : ByteArray) : Option ByteArray := if a0.size ≤ 1099511627776 then some ⟨(Lx.quote a0.data.toList).toArray⟩ else none
theorem lexer_Quote.calls (a0 : ByteArray) (r : ByteArray) (w : World) (h : lexer_Quote.f a0 = some r) :
    Calls Try.prog 17 #[.string a0] w fun e w' => e = .returned (.string r) ∧ Below w.heap.size w w' := by
  unfold lexer_Quote.f at h
  by_cases c : a0.size ≤ 1099511627776
  · rw [if_pos c] at h; cases h; exact quote_any a0 w c
  · rw [if_neg c] at h; cases h

end Go.Proofs.Ytflocikkhpjicaa.P
