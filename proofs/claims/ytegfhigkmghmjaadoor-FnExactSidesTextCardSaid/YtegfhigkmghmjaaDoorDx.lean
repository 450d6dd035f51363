/- What is done with an operation's result is apart from it. -/
import Derived.Test.YtegfhigkmghmjaaDoorDw
namespace Go.Dn

section
variable {E : Env} {off : Nat} {cx : Cx} {R : Type} {K : SU → Option R}

theorem cond_bind {α β : Type} (b : Bool) (x y : Option α) (f : α → Option β) : (bif b then x else y).bind f = bif b then x.bind f else y.bind f := by cases b <;> rfl

theorem intBin_bind {op : BinOp} {k : IntKind} {x y : Int} {K : Slot → Option R} : intBin op k x y K = (intBin op k x y some).bind K := by
  cases op <;> simp only [intBin, cond_bind, Option.bind_some, Option.bind_none]
theorem strBin_bind {op : BinOp} {x y : List UInt8} {K : Slot → Option R} : strBin op x y K = (strBin op x y some).bind K := by
  cases op <;> simp only [strBin, cond_bind, Option.bind_some, Option.bind_none]
theorem binK_bind {tb : Bool} {op : BinOp} {a b : SV} {K : Slot → Option R} : binK tb op a b K = (binK tb op a b some).bind K := by
  obtain ⟨t, x⟩ := a
  obtain ⟨t', y⟩ := b
  cases t <;> cases t' <;> try rfl
  · rename_i k k'
    cases op <;> simp only [binK, cond_bind, Option.bind_some, Option.bind_none] <;> (try rw [intBin_bind])
  · cases tb <;> cases op <;> rfl
  · exact strBin_bind

theorem binK_bind2 {tb : Bool} {op : BinOp} {a b : SV} : (binK tb op a b fun s => K (s, [])) = (binK tb op a b fun s => some (s, [])).bind K := by
  rw [binK_bind, binK_bind (K := fun s => some (s, []))]
  cases binK tb op a b some <;> rfl

theorem stepK_bind {o : Oper} : stepK cx E off o K = (stepK cx E off o some).bind K := by
  unfold stepK
  cases o.op <;> (try simp only []) <;> try rfl
  all_goals
    repeat' (first | rfl | (simp only [cond_bind, Option.bind_some, Option.bind_none]; done) | (rw [cond_bind]; (congr 1)) | exact binK_bind2 | split)

theorem callK_bind {c : Call} : callK cx E off c K = (callK cx E off c some).bind K := by
  unfold callK
  split
  · split
    · split
      · split
        · split
          · simp only [Option.bind_assoc]
            congr 1
            funext r
            split <;> rfl
          · rfl
        · rfl
      · rfl
    · rfl
  · rfl

end
end Go.Dn
