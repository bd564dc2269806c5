/- What Check promises (plain). -/
import Derived.Test.Qxb6500772aTk
import Derived.Test.Qxb6500772aYa
import Derived.Test.Qxb6500772aXb
namespace Go.Proofs.Qxb6500772a
set_option linter.unusedVariables false
set_option linter.unusedSimpArgs false
structure OKP (cels : List Cel) (body : SL) (f : EF) (t : EL) : Prop where
  cl : cels.length ≤ 256
  ce : ∀ c ∈ cels, CelOK c
  wb : wtS (cels.map (·.w)) body
  wl : wtL (cels.map (·.w)) t
  wo : wtOne (cels.map (·.w)) f t.ws
  w1 : f.w = 1
  st : nS body + nX (f, t) ≤ 4096
theorem OKP.ws {cels : List Cel} {body : SL} {f : EF} {t : EL} (h : OKP cels body f t) : WsOK (cels.map (·.w)) := by
  intro a ha
  obtain ⟨c, hc, rfl⟩ := List.mem_map.1 ha
  exact ⟨(h.ce c hc).w1, (h.ce c hc).w2⟩
theorem ckP_ok {cels : List Cel} {body : SL} {f : EF} {t : EL} (h : ckP cels body f t = 0) : OKP cels body f t := by
  unfold ckP at h
  split at h
  · cases h
  rename_i h1
  split at h
  · rename_i h2
    split at h
    · rename_i h3
      split at h
      · rename_i h4
        split at h
        · rename_i h5
          split at h
          · split at h
            · cases h
            · rename_i h7
              unfold ckCs at h2
              split at h2
              · rename_i h8
                have hx : ckL cels t = 0 ∧ ckOwn cels f t.ws = 0 := by
                  unfold ckX ckX' at h4
                  split at h4
                  · rename_i e; exact ⟨e, h4⟩
                  · rename_i e; exact absurd h4 e
                have hn := nE_le (.cons f t .nil) 0 (by omega)
                have hs := nS_le cels.length body (0, 0) (by omega)
                refine ⟨by omega, h8, ckSL_wt h3, ckL_wt hx.1, ckOwn_wt hx.2, h5, ?_⟩
                have e1 : nE (.cons f t .nil) = nX (f, t) := by simp [nE, nX]
                rw [e1] at hn
                simp only at hs
                omega
              · cases h2
          · rename_i h6; exact absurd h h6
        · cases h
      · rename_i h4; exact absurd h h4
    · rename_i h3; exact absurd h h3
  · cases h
end Go.Proofs.Qxb6500772a
