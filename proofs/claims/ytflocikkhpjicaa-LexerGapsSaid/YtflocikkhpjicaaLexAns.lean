/- What Lex answers, in plain words. -/
import Derived.Test.YtflocikkhpjicaaLexToks
namespace Go.Proofs.Ytflocikkhpjicaa.Lx
/-! ### the answer of Lex -/
/-- what a loop over the found things answers: the tokens, the error, its place -/
def res : List Fd → List Fd → List Fd × Nat × Int
  | acc, [] => (acc, 0, 0)
  | acc, x :: xs => if x.err ≠ 0 then ([], x.err, (x.pos : Int)) else if acc.length = 5000 then ([], 2, (x.pos : Int)) else res (acc ++ [x]) xs
def lexS (l : List UInt8) : List Fd × Nat × Int := if l.length > 20000 then ([], 2, -1) else res [] (founds 0 l)
/-- tokens that came without an error, and not too many -/
def Good (pre : List Fd) : Prop := (∀ x ∈ pre, x.err = 0) ∧ pre.length ≤ 5000
theorem good_nil : Good [] := ⟨fun x h => (List.not_mem_nil h).elim, by simp⟩
theorem good_snoc {pre : List Fd} {x : Fd} (h : Good pre) (hx : x.err = 0) (hl : pre.length ≠ 5000) : Good (pre ++ [x]) := by
  refine ⟨fun y hy => ?_, by have := h.2; simp; omega⟩
  rcases List.mem_append.1 hy with hy | hy
  · exact h.1 y hy
  · simp at hy; rw [hy]; exact hx
theorem res_good : ∀ (xs acc : List Fd), (∀ x ∈ xs, x.err = 0) → acc.length + xs.length ≤ 5000 → res acc xs = (acc ++ xs, 0, 0)
  | [], acc, _, _ => by simp [res]
  | x :: xs, acc, h, hl => by
    simp only [List.length_cons] at hl
    rw [res, if_neg (by rw [h x List.mem_cons_self]; simp), if_neg (by omega), res_good xs (acc ++ [x]) (fun y hy => h y (List.mem_cons_of_mem _ hy)) (by simp; omega)]
    simp
theorem res_skip : ∀ (pre acc xs : List Fd), (∀ x ∈ pre, x.err = 0) → acc.length + pre.length ≤ 5000 → res acc (pre ++ xs) = res (acc ++ pre) xs
  | [], acc, xs, _, _ => by simp
  | x :: pre, acc, xs, h, hl => by
    simp only [List.length_cons] at hl
    rw [List.cons_append, res, if_neg (by rw [h x List.mem_cons_self]; simp), if_neg (by omega), res_skip pre (acc ++ [x]) xs (fun y hy => h y (List.mem_cons_of_mem _ hy)) (by simp; omega)]
    simp
theorem res_stop_err {pre xs : List Fd} {x : Fd} (h : Good pre) (hx : x.err ≠ 0) : res [] (pre ++ [x] ++ xs) = ([], x.err, (x.pos : Int)) := by
  rw [List.append_assoc, res_skip pre [] _ h.1 (by have := h.2; simp; omega), List.nil_append]
  show res pre (x :: xs) = _
  rw [res, if_pos hx]
theorem res_stop_many {pre xs : List Fd} {x : Fd} (h : Good pre) (hx : x.err = 0) (hl : pre.length = 5000) : res [] (pre ++ [x] ++ xs) = ([], 2, (x.pos : Int)) := by
  rw [List.append_assoc, res_skip pre [] _ h.1 (by have := h.2; simp; omega), List.nil_append]
  show res pre (x :: xs) = _
  rw [res, if_neg (by rw [hx]; simp), if_pos hl]
end Go.Proofs.Ytflocikkhpjicaa.Lx
