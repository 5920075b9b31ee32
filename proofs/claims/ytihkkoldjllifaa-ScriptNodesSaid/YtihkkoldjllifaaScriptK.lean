/- the reference of script: an event's bytes. -/
import Derived.Test.YtihkkoldjllifaaScriptK1
import Derived.Test.YtihkkoldjllifaaScriptK2
import Derived.Test.YtihkkoldjllifaaScriptK3
import Derived.Test.YtihkkoldjllifaaScriptK4
namespace Go.Proofs.Ytihkkoldjllifaa
open Go.ChangeShapes Go.WideShapes Go.ChangeAt Go.RowKit
theorem rbytes_any (e : Ev) (p : Option Addr) (c : Nat) (w : World) (hlen : e.ks.length ≤ 1000) (htl : e.t.size ≤ 100000) (ha : NumsAt w p e.ks) :
    Calls Try.prog 43 #[.agg #[.int .i64 e.k, .int .i64 e.n, .int .i64 e.i, .int .i64 e.w, .string e.t, .slice p e.ks.length c, .int .u16 e.cv, .int .u16 e.cx, .int .u16 e.cl, .int .i64 e.ce, .int .i64 e.ck]] w (RBytEnd w (encR e)) := by
  by_cases qa : e.k = 1 ∨ e.k = 2 ∨ e.k = 3
  · exact rbytes_a e p c w hlen htl ha qa
  by_cases qb : e.k = 4 ∨ e.k = 5 ∨ e.k = 8
  · exact rbytes_b e p c w hlen htl ha qb
  by_cases qc : e.k = 6 ∨ e.k = 9
  · exact rbytes_c e p c w hlen htl ha qc
  by_cases qd : e.k = 7 ∨ e.k = 12
  · exact rbytes_d e p c w hlen htl ha qd
  simp only [not_or] at qa qb qc qd
  exact rbytes_e e p c w hlen htl ha (by simp_all)
end Go.Proofs.Ytihkkoldjllifaa
