import Derived.Test.YtadkdbnikmkgfaaBsV
import Derived.Test.YtadkdbnikmkgfaaFxB
namespace Go.Fw
open Go.Proofs
theorem dec_ask : Dec ([.i .i64] ++ ([.i .i64, .i .i64] ++ (celK ++ [.i .i64, .i .i64, .i .i64, .i .i64, .i .i64, .i .i64, .i .i64]))) Ask.cs (fun a => ok2 a.inst ∧ okCel a.cel ∧ okD a.upto) := fun cs h0 => by
  obtain ⟨ca, r1, rfl, ha, h1⟩ := Leaves.split h0
  obtain ⟨cb, r2, rfl, hb, h2⟩ := Leaves.split h1
  obtain ⟨cc, r3, rfl, hc, h3⟩ := Leaves.split h2
  obtain ⟨a, rfl, ka⟩ := dec_int ca ha
  obtain ⟨b, rfl, kb⟩ := dec_pair cb hb
  obtain ⟨c, rfl, kc⟩ := dec_cel cc hc
  obtain ⟨d, rfl, kd⟩ := dec_dp r3 h3
  exact ⟨⟨a, b, c, d⟩, rfl, kb, kc, kd⟩
end Go.Fw
