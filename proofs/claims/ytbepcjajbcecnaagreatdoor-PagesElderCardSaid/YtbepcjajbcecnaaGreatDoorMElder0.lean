/-
  PagesElder, plain: a commit leaves the files that were there. No program here.
-/
import Derived.Test.YtbepcjajbcecnaaGreatDoorMPgA
namespace Go.Proofs.YtbepcjajbcecnaaGreatDoor

def kMore : ByteArray := ⟨#[109, 111, 114, 101]⟩
theorem Stp.wide {d : ADisk} {st : AStore} {m m' c : Nat} (h : Stp d st m c) (hm : m ≤ m') : Stp d st m' c :=
  ⟨h.sits, h.left, h.most, h.com, fun p hp => Nat.le_trans (h.small p hp) hm, h.few, h.names, h.kc, h.used, h.files⟩
/-- what is read of a file hangs on the file alone. -/
theorem elder_plain {d : ADisk} {st : AStore} {N : Nat → Option (List UInt8)} (h : Stp d st 30 40) (hn : Now6 st.keys N) {more : List UInt8} (hm : more.length ≤ 100) :
    ∃ s1 d2 s2 k, pPut st kMore more = (s1, 0) ∧ pCommit d s1 = (d2, s2, k, 0) ∧ Stp d s1 100 40 ∧ Stp d2 s2 100 41 ∧ (∃ x, kB s2.keys kMore = some x ∧ x.b = more) ∧ ∀ u, u ∈ d.names → u ≠ freshI → lk d2.fs u = lk d.fs u := by
  have h0 := h.wide (m' := 100) (by omega)
  have hlen : (putB st.keys kMore ⟨more, 0, 0⟩).length ≤ 7 := by
    rw [length_putB h.sits.sorted]
    have h1 := hn.len h.sits.sorted
    have h2 := cnt6_le N
    split <;> omega
  obtain ⟨p1, p2⟩ := h0.put (s := kMore) (b := more) (by decide) hm (by omega) hlen
  obtain ⟨s1, hs1⟩ : ∃ s, ({ st with keys := putB st.keys kMore ⟨more, 0, 0⟩ } : AStore) = s := ⟨_, rfl⟩
  have hk1 : s1.keys = putB st.keys kMore ⟨more, 0, 0⟩ := by rw [← hs1]
  have hkk : s1.k = st.k := by rw [← hs1]
  rw [hs1] at p1 p2
  obtain ⟨d2, c1, c2, c3⟩ := p2.commit (by omega) (by omega)
  refine ⟨s1, d2, _, _, p1, c1, p2, c3, ?_, fun u hu hf => ?_⟩
  · show ∃ x, kB (cmOf s1).1 kMore = some x ∧ x.b = more
    have hcont : contB (cmOf s1).1 = contB s1.keys := (cm_ok _ _ _ _).cont
    have h1 : (kB (cmOf s1).1 kMore).map (·.b) = some more := by
      rw [← kC_contB, hcont, kC_contB, hk1, kB_putB, if_pos rfl]
      rfl
    cases hx : kB (cmOf s1).1 kMore with
    | none => rw [hx] at h1; cases h1
    | some x => rw [hx] at h1; exact ⟨x, rfl, Option.some.inj h1⟩
  · obtain ⟨n, n1, n2, n3⟩ := h.names u (names_lk hu)
    refine c2.other u (fun e => ?_) (fun e => ?_) hf
    · rcases n3 with e2 | e2
      · exact ic_ne _ _ (e2.symm.trans e)
      · have e3 : n = s1.k + 1 := (pgName_inj (e2.symm.trans e)).2
        omega
    · rcases n3 with e2 | e2
      · have e3 : n = s1.k + 1 := (pgName_inj (e2.symm.trans e)).2
        omega
      · exact ic_ne _ _ (e.symm.trans e2)
end Go.Proofs.YtbepcjajbcecnaaGreatDoor
