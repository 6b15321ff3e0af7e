import Derived.Test.YtlhfefchdhbdpaaAwk0
import Derived.Test.YtlhfefchdhbdpaaSeg2
namespace Go.Proofs.Ytlhfefchdhbdpaa
open Go.RowKit Go.Proofs.Ytlhfefchdhbdpaa.QW Go.Proofs.YtlhfefchdhbdpaaW.PrintWords Go.Proofs.YtlhfefchdhbdpaaW.PrintLast Go.Proofs.YtlhfefchdhbdpaaW.PrintMore
theorem segOk : SegOk := fun A0 c0 fr en l0 w h1 h2 h3 h4 h5 => seg_ok A0 c0 fr en l0 w h1 h2 h3 h4 h5
theorem incunablelaw47_awake.calls (r : Bool) (w : World) (h : incunablelaw47_awake.f = some r) :
    Calls Try.prog 4 #[] w fun e w' => e = .returned (.bool r) ∧ Below w.heap.size w w' := awake_calls segOk r w h
theorem queue_Better.calls (A0 : Option Addr) (c0 : Nat) (l0 : List S36) (r1 : List Int) (r2 : Int) (w : World) (hr0 : Kd.C k36 w A0 l0.length l0) (hc0 : l0.length ≤ c0) (h : queue_Better.f l0 = some (r1, r2)) :
    Calls Try.prog 6 #[.slice A0 l0.length c0] w fun e w' => ∃ v0_ : Value, e = .returned (.tuple #[v0_, .int .i64 r2]) ∧ Kd.R (Kd.int .i64) 3 w' w.heap.size (fun _ => True) v0_ r1 ∧ Below w.heap.size w w' := better_calls segOk A0 c0 l0 r1 r2 w hr0 hc0 h
end Go.Proofs.Ytlhfefchdhbdpaa
