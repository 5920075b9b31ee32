/- Logs: the plain law: what is in force at the end of a log. -/
import Derived.Test.YtabiccpodnjieaaPlainLog
namespace Go.Proofs.Ytabiccpodnjieaa

def confF (j : Jn) (es : List Ent) : Jn := es.foldl (fun j e => if e.k = 2 then e.j else j) j
def confL (l : Lg) : Jn := confF l.j l.es
theorem confF_app (j : Jn) (a b : List Ent) : confF j (a ++ b) = confF (confF j a) b := by simp [confF]
theorem confF_none {j : Jn} {es : List Ent} (h : ∀ e ∈ es, e.k ≠ 2) : confF j es = j := by
  induction es generalizing j with
  | nil => rfl
  | cons x t ih =>
    have h1 : confF j (x :: t) = confF (if x.k = 2 then x.j else j) t := rfl
    rw [h1, if_neg (h x (by simp))]
    exact ih (fun e he => h e (by simp [he]))
theorem confF_at {j : Jn} {es : List Ent} {m : Nat} (hm : m < es.length) (hk : es[m].k = 2) (h : ∀ e ∈ es.drop (m + 1), e.k ≠ 2) : confF j es = es[m].j := by
  have hs : es = es.take m ++ (es[m] :: es.drop (m + 1)) := by rw [List.getElem_cons_drop, List.take_append_drop]
  have h1 : confF j es = confF (confF j (es.take m)) (es[m] :: es.drop (m + 1)) := by
    conv => lhs; rw [hs]
    rw [confF_app]
  have h2 : ∀ j', confF j' (es[m] :: es.drop (m + 1)) = confF (if es[m].k = 2 then es[m].j else j') (es.drop (m + 1)) := fun _ => rfl
  rw [h1, h2, if_pos hk, confF_none h]
end Go.Proofs.Ytabiccpodnjieaa
