/- RatioField over three drafts. -/
import Derived.Test.YtabdnjakmhnnfaaGreatDoorQField
import Derived.Test.YtabdnjakmhnnfaaGreatDoorQOpen
set_option linter.unusedSimpArgs false
set_option linter.unusedVariables false
namespace Go.Proofs.YtabdnjakmhnnfaaGreatDoor
open D4 (rt it)

theorem field_any {w : World} {v1 v2 v3 : Value} (h1 : DraftAt w v1) (h2 : DraftAt w v2) (h3 : DraftAt w v3) (hg : Good w) : Calls Tryz.prog 7 #[v1, v2, v3] w (RetV w (.bool true)) := by
  obtain ⟨n1x, n2x, a1x, a2x, k1x, c1x, k2x, c2x, t1x, t2x, x, rfl, fx, hx⟩ := h1.q
  obtain ⟨n1y, n2y, a1y, a2y, k1y, c1y, k2y, c2y, t1y, t2y, y, rfl, fy, hy⟩ := h2.q
  obtain ⟨n1z, n2z, a1z, a2z, k1z, c1z, k2z, c2z, t1z, t2z, z, rfl, fz, hz⟩ := h3.q
  exact field_walk _ _ _ _ _ _ _ _ _ _ _ _ _ _ _ _ _ _ _ _ _ _ _ _ _ _ _ _ _ _ x y z fx fy fz (fun V hV => hx V hV (hg.below hV)) (fun V hV => hy V hV (hg.below hV)) (fun V hV => hz V hV (hg.below hV)) hg
end Go.Proofs.YtabdnjakmhnnfaaGreatDoor
