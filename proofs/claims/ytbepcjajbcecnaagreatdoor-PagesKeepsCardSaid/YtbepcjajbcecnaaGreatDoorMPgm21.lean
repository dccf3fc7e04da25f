/-
  A commit is loaded.
-/
import Derived.Outline
import Derived.BigRegion
import Derived.BigQuiet
import Derived.Deep.QuietTactic
import Derived.Deep.CutRange
import Derived.Test.YtbepcjajbcecnaaGreatDoorMPag14
import Derived.Test.YtbepcjajbcecnaaGreatDoorMPgm20
namespace Go.Proofs.YtbepcjajbcecnaaGreatDoor
open Go.RowKit Go.Maps Go.MapKept
set_option linter.unusedSimpArgs false

def LoadPost (w : World) (r : List (ByteArray × ABlob) × Int) (e : Ending) (w' : World) : Prop :=
  Below w.heap.size w w' ∧ if r.2 = 0 then ∃ mk S g, e = .returned (.tuple #[.map (some mk), .int .i64 0]) ∧ (w.heap.size ≤ mk ∧ mk < w'.heap.size) ∧ KeysAt w' mk S g r.1 ∧ (∀ j, S j → mk < j ∧ j < w'.heap.size) else e = .returned (.tuple #[.map none, .int .i64 r.2])
theorem LoadPost.bad {w w' : World} {r : List (ByteArray × ABlob) × Int} {er : Int} (h : r = ([], er)) (h0 : er ≠ 0) (hB : Below w.heap.size w w') : LoadPost w r (.returned (.tuple #[.map none, .int .i64 er])) w' := by
  subst h
  exact ⟨hB, by rw [if_neg h0]⟩
theorem LoadPost.good {w w' : World} {r : List (ByteArray × ABlob) × Int} {l : List (ByteArray × ABlob)} (h : r = (l, 0)) (hB : Below w.heap.size w w') {mk : Nat} {S : Nat → Prop} {g : Value → Option Value} (hm : w.heap.size ≤ mk ∧ mk < w'.heap.size) (hK : KeysAt w' mk S g l) (hS : ∀ j, S j → mk < j ∧ j < w'.heap.size) : LoadPost w r (.returned (.tuple #[.map (some mk), .int .i64 0])) w' := by
  subst h
  exact ⟨hB, by rw [if_pos rfl]; exact ⟨mk, S, g, rfl, hm, hK, hS⟩⟩
theorem IdxPost.any {w : World} {o : Option (List AEnt)} {e : Ending} {w' : World} (h : IdxPost o w e w') : ∃ v1 v2 v3 b, e = .returned (.tuple #[v1, v2, v3, .bool b]) ∧ Below w.heap.size w w' := by
  obtain ⟨hB, h⟩ := h
  cases o with
  | none => obtain ⟨v1, v2, v3, e⟩ := h; exact ⟨v1, v2, v3, false, e, hB⟩
  | some es => obtain ⟨a1, c1, a2, c2, a3, c3, e, _⟩ := h; exact ⟨_, _, _, true, e, hB⟩
/-- the j-th entry's cells. -/
theorem Tri.at {w0 w : World} {es : List AEnt} {a1 a2 a3 : Option Addr} {c1 c2 c3 : Nat} {T : List (Nat × Obj)} (h : Tri w0 w (.slice a1 es.length c1) (.slice a2 es.length c2) (.slice a3 es.length c3) es.length es.length es.length (es.map fun x => .string x.name) (es.flatMap fun x => [.slice none 0 0, .int .i64 x.pack, .int .i64 x.pos]) (es.map fun x => .int .i64 x.long) T) (j : Nat) (hj : j < es.length) :
    ∃ g1 g2 g3, a1 = some ⟨g1, 0, none⟩ ∧ a2 = some ⟨g2, 0, none⟩ ∧ a3 = some ⟨g3, 0, none⟩ ∧ (w0.heap.size ≤ g1 ∧ w0.heap.size ≤ g2 ∧ w0.heap.size ≤ g3) ∧ w.cell? ⟨g1, j, none⟩ = some (.string es[j].name) ∧ w.cell? ⟨g2, j * 3, none⟩ = some (.slice none 0 0) ∧ w.cell? ⟨g2, j * 3 + 1, none⟩ = some (.int .i64 es[j].pack) ∧ w.cell? ⟨g2, j * 3 + 2, none⟩ = some (.int .i64 es[j].pos) ∧ w.cell? ⟨g3, j, none⟩ = some (.int .i64 es[j].long) := by
  obtain ⟨g1, d1, e1, k1, _, m1⟩ := row_cell h.r1 j hj
  obtain ⟨g3, d3, e3, k3, _, m3⟩ := row_cell h.r3 j hj
  cases e1
  cases e3
  have hr2 := h.r2
  rcases hr2.2 with ⟨_, hz⟩ | ⟨g2, cap, cur, he, hg, _, hnc, _⟩
  · omega
  · cases he
    have hc : ∀ q u, (es.flatMap fun x => [Value.slice none 0 0, .int .i64 x.pack, .int .i64 x.pos])[q]? = some u → w.cell? ⟨g2, q, none⟩ = some u := fun q u hu => by
      have := hr2.cells (g := g2) rfl q u hu
      rwa [Addr.add_lit, Nat.zero_add] at this
    have hget : ∀ (l : List AEnt) (i q : Nat) (hi : i < l.length), q < 3 → (l.flatMap fun x => [Value.slice none 0 0, .int .i64 x.pack, .int .i64 x.pos])[i * 3 + q]? = [Value.slice none 0 0, .int .i64 l[i].pack, .int .i64 l[i].pos][q]? := by
      intro l
      induction l with
      | nil => intro i q hi; simp at hi
      | cons x l ih =>
        intro i q hi hq
        rw [List.flatMap_cons]
        cases i with
        | zero =>
          rw [Nat.zero_mul, Nat.zero_add, List.getElem?_append_left (by simpa using hq)]
          rfl
        | succ i =>
          rw [List.getElem?_append_right (by simp; omega)]
          rw [show (i + 1) * 3 + q - [Value.slice none 0 0, Value.int .i64 x.pack, Value.int .i64 x.pos].length = i * 3 + q by simp; omega]
          rw [ih i q (by simpa using hi) hq]
          rfl
    refine ⟨g1, g2, g3, rfl, rfl, rfl, ⟨k1, hg, k3⟩, (m1 j hj).trans (by rw [List.getElem?_map, List.getElem?_eq_getElem hj]; rfl), hc _ _ ?_, hc _ _ ?_, hc _ _ ?_, (m3 j hj).trans (by rw [List.getElem?_map, List.getElem?_eq_getElem hj]; rfl)⟩
    · exact hget es j 0 hj (by omega)
    · exact hget es j 1 hj (by omega)
    · exact hget es j 2 hj (by omega)
theorem rd_sub5 {w : World} {a : Option Addr} {n c : Nat} {xs : List Value} (hr : Rd w (.slice a n c) xs) (hnc : n ≤ c) (lo m : Nat) (h : lo + m ≤ n) : Rd w (.slice (if c = lo then a else a.map (fun x => x.add lo)) m (c - lo)) ((xs.drop lo).take m) := by
  by_cases hc : c = lo
  · rw [if_pos hc]
    have hm : m = 0 := by omega
    subst hm
    rw [hc, Nat.sub_self, List.take_zero]
    cases a with
    | none => exact Or.inl ⟨Or.inl rfl, rfl⟩
    | some a => exact Or.inl ⟨Or.inr ⟨a, 0, rfl⟩, rfl⟩
  · rw [if_neg hc]
    exact rd_sub hr lo m h hc
theorem own_any5 {a : Option Addr} {n n' c c' q : Nat} (h : (Value.slice a n c).ownBlock = some q) : (Value.slice a n' c').ownBlock = some q := by
  cases a with
  | none => cases h
  | some y => exact h
theorem own_add5 {a : Option Addr} {n n' c c' q lo : Nat} (h : (Value.slice (Option.map (fun y => y.add lo) a) n c).ownBlock = some q) : (Value.slice a n' c').ownBlock = some q := by
  cases a with
  | none => cases h
  | some y =>
    rw [← h]
    obtain ⟨b, o, pp⟩ := y
    cases pp <;> (simp [Value.ownBlock, Addr.add]; split <;> rfl)
section
variable {ex : Nat → Prop} {w : World} {p m : Nat} {d : ADisk}
set_option maxRecDepth 100000 in
set_option maxHeartbeats 8000000 in
theorem pgload_at (h : DiskAt ex w p m d) (hE : WEnv w) (k : Nat) (hk : k ≤ 9007199254740992) :
    Calls Tryz.prog 60 #[.pointer (some ⟨p, 0, none⟩), .int .i64 k] w (LoadPost w (pLoad d k)) := by
  have hB0 : Below w.heap.size w (w.alloc (.map #[] 0)) := (Below.refl _ _).alloc (Nat.le_refl _) _
  have hF := pgfile_any (w.alloc (.map #[] 0)) 105 k (by omega) (hE.below hB0)
  have hsz : (iName k).size ≤ 17 := pgName_size hk
  obtain ⟨s, hs⟩ : ∃ s, iName k = s := ⟨_, rfl⟩
  rw [show pgName 105 k = s from hs] at hF
  rw [hs] at hsz
  obtain ⟨er, her⟩ : ∃ er, findErr d s = er := ⟨_, rfl⟩
  obtain ⟨bs, hbs⟩ : ∃ bs, d.readBytes s = bs := ⟨_, rfl⟩
  have hbl : bs.length ≤ 16777216 := by rw [← hbs]; exact readBytes_le h.wf s
  have hR := fun w2 (hB : Below w.heap.size w w2) => Read_at s (h.below hB) (by simp only [maxLen]; omega)
  rw [her, hbs] at hR
  have hM := MapIs.made Tryz.prog 9 w
  have hmm := @run_makeMap Tryz.prog
  obtain ⟨r, hr⟩ : ∃ r, pLoad d k = r := ⟨_, rfl⟩
  rw [hr]
  have HF := Lib.hid hF
  have HR := Lib.hid hR
  have HM := Lib.hid hM
  have H := Lib.hid h
  have HEn := Lib.hid hE
  have Hr := Lib.hid hr
  have Hs := Lib.hid (And.intro hs (And.intro her hbs))
  have hmk : ∀ w', Below (w.alloc (.map #[] 0)).heap.size (w.alloc (.map #[] 0)) w' → Below w.heap.size w w' ∧ (w.heap.size ≤ w.heap.size ∧ w.heap.size < w'.heap.size) ∧ KeysAt w' w.heap.size (fun _ => False) (fun _ => none) [] := fun w' hB => by
    have hs1 : (w.alloc (.map #[] 0)).heap.size = w.heap.size + 1 := by simp
    have hs2 := hB.size
    exact ⟨hB0.trans (hB.mono hB0.size), ⟨Nat.le_refl _, by omega⟩, keys_nil _ (HM.out.upd (Upd.ofBelow (fp := noFp) hB) (fun h => h))⟩
  have Hmk := Lib.hid hmk
  have HB0 := Lib.hid hB0
  clear hF hR hM hr h hE hs her hbs hmk
  by_cases h0 : er = 0
  · subst h0
    have hI := fun w3 v (h3 : Rd w3 v (bcells bs)) (hc : CapOk v) => pgindex_any w3 v bs k h3 hc (by omega) hk
    by_cases hk0 : k = 0
    · subst hk0
      have Hg := Lib.hid (show r = ([], 0) by rw [← Hr.out]; exact pLoad_zero (by rw [Hs.out.1]; exact Hs.out.2.1))
      have HI := Lib.hid hI
      clear hI
      go_enter Tryz.func60, Tryz.ntmps60
      go_wp2_with first
        | (go_at_call 52; refine HF.out.mono ?_; rintro e w2 ⟨rfl, hB2⟩; have HB2 := Lib.hid hB2; clear hB2)
        | (go_at_call 26; refine (HR.out w2 (Hmk.out w2 HB2.out).1).mono ?_; rintro e w3 ⟨a, c, rfl, hrow, hB3⟩; obtain ⟨_, _, hv3, hnc3, hcm3, _⟩ := row_slice (ownsRow_base0 hrow); cases hv3; have Hrow := Lib.hid (And.intro hrow (And.intro hnc3 hcm3)); have HB3 := Lib.hid (HB2.out.trans (hB3.mono HB2.out.size)); clear hrow hB3 hnc3 hcm3)
        | (go_at_call 103; refine (HI.out w3 _ (Rd.ofOwns Hrow.out.1) ⟨_, _, _, rfl, Hrow.out.2.1, Hrow.out.2.2⟩).mono ?_; intro e w4 hP; obtain ⟨v1, v2, v3, b, rfl, hB4⟩ := hP.any; have HB4 := Lib.hid (HB3.out.trans (hB4.mono HB3.out.size)); clear hP hB4)
      go_ret2
      obtain ⟨m1, m2, m3⟩ := Hmk.out w4 HB4.out
      exact LoadPost.good Hg.out m1 m2 m3 (fun _ h => h.elim)
    · have hk0I : ((k : Int) == 0) = false := by simpa using (fun e => hk0 (by omega) : ¬ (k : Int) = 0)
      cases hi : pIndex bs k with
      | none =>
        have Hg := Lib.hid (show r = ([], 14) by rw [← Hr.out]; exact pLoad_none (by rw [Hs.out.1]; exact Hs.out.2.1) hk0 (by rw [Hs.out.1, Hs.out.2.2]; exact hi))
        rw [hi] at hI
        have HI := Lib.hid hI
        clear hI hi hk0
        go_enter Tryz.func60, Tryz.ntmps60
        go_wp2_with first
          | (go_at_call 52; refine HF.out.mono ?_; rintro e w2 ⟨rfl, hB2⟩; have HB2 := Lib.hid hB2; clear hB2)
          | (go_at_call 26; refine (HR.out w2 (Hmk.out w2 HB2.out).1).mono ?_; rintro e w3 ⟨a, c, rfl, hrow, hB3⟩; obtain ⟨_, _, hv3, hnc3, hcm3, _⟩ := row_slice (ownsRow_base0 hrow); cases hv3; have Hrow := Lib.hid (And.intro hrow (And.intro hnc3 hcm3)); have HB3 := Lib.hid (HB2.out.trans (hB3.mono HB2.out.size)); clear hrow hB3 hnc3 hcm3)
          | (go_at_call 103; refine (HI.out w3 _ (Rd.ofOwns Hrow.out.1) ⟨_, _, _, rfl, Hrow.out.2.1, Hrow.out.2.2⟩).mono ?_; rintro e w4 ⟨hB4, v1, v2, v3, rfl⟩; have HB4 := Lib.hid (HB3.out.trans (hB4.mono HB3.out.size)); clear hB4)
        go_ret2
        exact LoadPost.bad Hg.out (by decide) (Hmk.out w4 HB4.out).1
      | some es =>
        have hes := pIndex_ents hi
        rw [hi] at hI
        have HI := Lib.hid hI
        have Hes := Lib.hid (And.intro hes hi)
        clear hI hi hes
        go_enter Tryz.func60, Tryz.ntmps60
        go_upto_region 15 with first
          | (go_at_call 52; refine HF.out.mono ?_; rintro e w2 ⟨rfl, hB2⟩; have HB2 := Lib.hid hB2; clear hB2)
          | (go_at_call 26; refine (HR.out w2 (Hmk.out w2 HB2.out).1).mono ?_; rintro e w3 ⟨a, c, rfl, hrow, hB3⟩; obtain ⟨_, _, hv3, hnc3, hcm3, _⟩ := row_slice (ownsRow_base0 hrow); cases hv3; have Hrow := Lib.hid (And.intro hrow (And.intro hnc3 hcm3)); have HB3 := Lib.hid (HB2.out.trans (hB3.mono HB2.out.size)); clear hrow hB3 hnc3 hcm3)
          | (go_at_call 103; refine (HI.out w3 _ (Rd.ofOwns Hrow.out.1) ⟨_, _, _, rfl, Hrow.out.2.1, Hrow.out.2.2⟩).mono ?_; rintro e w4 ⟨hB4, a1, c1, a2, c2, a3, c3, rfl, w0, hw0, hT⟩; have HT := Lib.hid (And.intro hT hw0); have HB4 := Lib.hid (HB3.out.trans (hB4.mono HB3.out.size)); clear hB4 hT hw0)
        obtain ⟨hes, hix⟩ := Hes.out
        obtain ⟨m1, m2, m3⟩ := Hmk.out w4 HB4.out
        have hfl : ∀ x, x ∈ es → ¬ okB d x → r = ([], 14) := fun x hx hb => by
          rw [← Hr.out]; exact pLoad_bad (by rw [Hs.out.1]; exact Hs.out.2.1) hk0 (by rw [Hs.out.1, Hs.out.2.2]; exact hix) hx hb
        have hall : (∀ x ∈ es, okB d x) → r = (blobsB d es, 0) := fun hb => by
          rw [← Hr.out]; exact pLoad_all (by rw [Hs.out.1]; exact Hs.out.2.1) hk0 (by rw [Hs.out.1, Hs.out.2.2]; exact hix) hb
        have hw0m : w.heap.size < w0.heap.size := by
          have h1 := HT.out.2
          have h2 := HB3.out.size
          have h3 : (w.alloc (.map #[] 0)).heap.size = w.heap.size + 1 := by simp
          omega
        obtain ⟨n, hn⟩ : ∃ n, es.length = n := ⟨_, rfl⟩
        obtain ⟨mk, hmk⟩ : ∃ x, w.heap.size = x := ⟨_, rfl⟩
        have hat := fun j hj => HT.out.1.at j hj
        have Hat := Lib.hid hat
        have H4 := Lib.hid (And.intro m1 (And.intro m2 m3))
        have Hf := Lib.hid (And.intro hfl hall)
        have Hes2 := Lib.hid hes
        have Hn := Lib.hid hn
        have Hmk2 := Lib.hid hmk
        have HTs := Lib.hid HT.out.1.bel.size
        rw [hn]
        rw [hmk]
        clear hes hix m1 m2 m3 hfl hall hat hn Hes Hmk hmk HI hk0 hk0I
        go_loopw [13, 14, 15, 16, 48] (fun _ _ _ _ jv wr => ∃ (j : Nat) (S : Nat → Prop) (g : Value → Option Value), j ≤ n ∧ jv = .int .i64 j ∧ KeysAt wr mk S g (blobsB d (es.take j)) ∧ (∀ i, S i → mk < i ∧ i < wr.heap.size) ∧ Upd (· = mk) w4 wr ∧ ∀ x ∈ es.take j, okB d x) (fun _ _ _ _ jv _ => n - (intOf jv).toNat)
        case atStart => exact ⟨0, fun _ => False, fun _ => none, by omega, rfl, by rw [← Hmk2.out]; exact H4.out.2.2, fun _ h => h.elim, Upd.refl _ _, fun x hx => by simp at hx⟩
        case round =>
          obtain ⟨j, S, g, hj, rfl, hK, hS, hU, hok⟩ := hrel
          have hbr : Below w.heap.size w wr := H4.out.1.trans (hU.below (fun k hk => by rw [hk]; exact Nat.le_of_eq Hmk2.out) H4.out.1.size)
          have Hbr := Lib.hid hbr
          have HK := Lib.hid (And.intro hK (And.intro hS hU))
          have Hok := Lib.hid hok
          clear hK hS hU hok hbr
          by_cases hlt : j < n
          · have hjl : j < es.length := by rw [Hn.out]; exact hlt
            obtain ⟨g1, g2, g3, rfl, rfl, rfl, ⟨q1, q2, q3⟩, z1, z2, z3, z4, z5⟩ := Hat.out j hjl
            obtain ⟨x, hx⟩ : ∃ x, es[j] = x := ⟨_, rfl⟩
            rw [hx] at z1 z3 z4 z5
            have hxm : x ∈ es := by rw [← hx]; exact List.getElem_mem hjl
            obtain ⟨b0, b1, b2, b3, b4, b5, b6⟩ := Hes2.out.bnd x hxm
            have hgm : ∀ g', w0.heap.size ≤ g' → ∀ o v, w4.cell? ⟨g', o, none⟩ = some v → wr.cell? ⟨g', o, none⟩ = some v := fun g' hg o v hc => (HK.out.2.2.cell (cell_lt hc) (fun e => by have := Hmk2.out; omega) o).trans hc
            have y1 := hgm g1 q1 _ _ z1
            have y2 := hgm g2 q2 _ _ z2
            have y3 := hgm g2 q2 _ _ z3
            have y4 := hgm g2 q2 _ _ z4
            have y5 := hgm g3 q3 _ _ z5
            have hji : (j : Int) < (n : Int) := by omega
            have hj0 : (0 : Int) ≤ (j : Int) := by omega
            obtain ⟨w5, hw5⟩ : ∃ y, wr.alloc (.cells #[.slice none 0 0, .int .i64 x.pack, .int .i64 x.pos] 104) = y := ⟨_, rfl⟩
            have hb5 : w5.heap[wr.heap.size]? = some (.cells #[.slice none 0 0, .int .i64 x.pack, .int .i64 x.pos] 104 (0, 0)) := by rw [← hw5]; exact alloc_at _ _
            have hB5 : Below wr.heap.size wr w5 := by rw [← hw5]; exact (Below.refl _ _).alloc (Nat.le_refl _) _
            obtain ⟨bx, hbx⟩ : ∃ y, wr.heap.size = y := ⟨_, rfl⟩
            rw [hbx] at hb5
            have hF2 := pgfile_any w5 99 x.pack (by omega) (HEn.out.below (Hbr.out.trans (hB5.mono Hbr.out.size)))
            have hsz2 : (cName x.pack).size ≤ 17 := pgName_size b4
            obtain ⟨s2, hs2⟩ : ∃ s, cName x.pack = s := ⟨_, rfl⟩
            rw [show pgName 99 x.pack = s2 from hs2] at hF2
            rw [hs2] at hsz2
            obtain ⟨er2, her2⟩ : ∃ er, findErr d s2 = er := ⟨_, rfl⟩
            obtain ⟨bs2, hbs2⟩ : ∃ bs, d.readBytes s2 = bs := ⟨_, rfl⟩
            have hbl2 : bs2.length ≤ 16777216 := by rw [← hbs2]; exact readBytes_le H.out.wf s2
            have hR2 := fun w6 (hB : Below w5.heap.size w5 w6) => Read_at s2 ((H.out.below (Hbr.out.trans (hB5.mono Hbr.out.size))).below hB) (by simp only [maxLen]; omega)
            rw [her2, hbs2] at hR2
            have HF2 := Lib.hid hF2
            have HR2 := Lib.hid hR2
            have Hx := Lib.hid (And.intro hx (And.intro hxm (And.intro hs2 (And.intro her2 hbs2))))
            have H5 := Lib.hid (And.intro hb5 (And.intro hB5 hw5))
            have Hbx := Lib.hid hbx
            obtain ⟨v0, v1, v2, _⟩ := cells3 hb5
            clear hF2 hR2 hx hxm hs2 her2 hbs2 hb5 hB5 hw5 hgm z1 z2 z3 z4 z5 hbx
            go_upto_region 17 with fail
            rw [H5.out.2.2, Hbx.out]
            go_upto_region 18 with first
              | (go_at_call 52; refine HF2.out.mono ?_; rintro e w6 ⟨rfl, hB6⟩; have HB6 := Lib.hid hB6; clear hB6)
              | (go_at_call 26; refine (HR2.out w6 HB6.out).mono ?_; rintro e w7 ⟨a7, c7, rfl, hrow, hB7⟩; obtain ⟨_, _, hv7, hnc7, hcm7, _⟩ := row_slice (ownsRow_base0 hrow); cases hv7; have Hr7 := Lib.hid (And.intro hrow (And.intro hnc7 hcm7)); have HB7 := Lib.hid (And.intro hB7 (HB6.out.trans (hB7.mono HB6.out.size))); clear hrow hB7 hcm7)
            clear v0 v1 v2
            have hb7 : w7.heap[bx]? = some (.cells #[.slice none 0 0, .int .i64 x.pack, .int .i64 x.pos] 104 (0, 0)) := (HB7.out.2.block bx (blk_lt H5.out.1)).trans H5.out.1
            obtain ⟨v0, v1, v2, _⟩ := cells3 hb7
            have u5 : w7.cell? ⟨g3, j, none⟩ = some (.int .i64 x.long) := by
              have h1 := (H5.out.2.1.cell (p := ⟨g3, j, none⟩) (cell_lt y5)).trans y5
              exact (HB7.out.2.cell (p := ⟨g3, j, none⟩) (cell_lt h1)).trans h1
            have hw7 : Below w.heap.size w w7 := Hbr.out.trans ((H5.out.2.1.trans (HB7.out.2.mono H5.out.2.1.size)).mono Hbr.out.size)
            have Hw7 := Lib.hid hw7
            have Hb7 := Lib.hid hb7
            clear hb7 hw7
            by_cases he2 : er2 = 0
            · have he2b : (er2 != 0) = false := by simp [he2]
              by_cases hp : bs2.length < x.pos
              · have hpI : (bs2.length : Int) < (x.pos : Int) := by omega
                have Hb := Lib.hid (Hf.out.1 x Hx.out.2.1 (fun h => by have h2 := h.2; rw [Hx.out.2.2.1, Hx.out.2.2.2.2] at h2; omega))
                clear he2 hp
                go_wp2_with fail
                go_quiet (fail)
                go_wp2_with fail
                go_ret2
                exact LoadPost.bad Hb.out (by decide) (below_drewN Hw7.out _)
              · have hpI : ¬ (bs2.length : Int) < (x.pos : Int) := by omega
                have hpd : decide (bs2.length < x.pos) = false := decide_eq_false hp
                have hsubw : IntKind.i64.wrap ((bs2.length : Int) - (x.pos : Int)) = (bs2.length : Int) - (x.pos : Int) := IntWalk.i64_in _ (by omega)
                by_cases hl : bs2.length < x.pos + x.long
                · have hlI : (bs2.length : Int) - (x.pos : Int) < (x.long : Int) := by omega
                  have Hb := Lib.hid (Hf.out.1 x Hx.out.2.1 (fun h => by have h2 := h.2; rw [Hx.out.2.2.1, Hx.out.2.2.2.2] at h2; omega))
                  clear he2 hl
                  go_wp2_with fail
                  go_quiet (fail)
                  go_wp2_with fail
                  go_ret2
                  exact LoadPost.bad Hb.out (by decide) (below_drewN Hw7.out _)
                · have hlI : ¬ (bs2.length : Int) - (x.pos : Int) < (x.long : Int) := by omega
                  have hld : decide ((bs2.length : Int) - (x.pos : Int) < (x.long : Int)) = false := decide_eq_false hlI
                  have hokx : okB d x := ⟨by rw [Hx.out.2.2.1, Hx.out.2.2.2.1, he2], by rw [Hx.out.2.2.1, Hx.out.2.2.2.2]; omega⟩
                  have Hokx := Lib.hid hokx
                  have hsum : x.pos + x.long ≤ bs2.length := by omega
                  clear he2 hl hokx
                  go_wp2_with fail
                  go_quiet (fail)
                  go_upto_region 20 with fail
                  have hB8 : Below w7.heap.size w7 (w7.drewN nq) := below_drewN (Below.refl _ _) _
                  obtain ⟨w8, hw8⟩ : ∃ y, w7.drewN nq = y := ⟨_, rfl⟩
                  rw [hw8] at hB8 ⊢
                  have hb8 : w8.heap[bx]? = some (.cells #[.slice none 0 0, .int .i64 x.pack, .int .i64 x.pos] 104 (0, 0)) := (hB8.block bx (blk_lt Hb7.out)).trans Hb7.out
                  have u8 := (hB8.cell (p := ⟨g3, j, none⟩) (cell_lt u5)).trans u5
                  have u8d : w8.drew.cell? ⟨g3, j, none⟩ = some (.int .i64 x.long) := u8
                  have hrd8 : Rd w8 (.slice a7 bs2.length c7) (bcells bs2) := (Rd.ofOwns Hr7.out.1).below hB8
                  have H8 := Lib.hid (And.intro hB8 (And.intro hb8 hrd8))
                  clear hw8 v0 v1 v2 u5 hB8
                  obtain ⟨v0, v1, v2, f0, f1, f2⟩ := cells3 hb8
                  obtain ⟨v0d, v1d, v2d, f0d, f1d, f2d⟩ := cells3 (w := w8.drew) hb8
                  obtain ⟨aD, haD⟩ : ∃ y, (if c7 = x.pos then a7 else Option.map (fun y => y.add x.pos) a7) = y := ⟨_, rfl⟩
                  have hnc7 := Hr7.out.2.1
                  have hcm7 := Hr7.out.2.2
                  simp only [maxLen] at hcm7
                  have hsumI : (x.pos : Int) + (x.long : Int) ≤ (c7 : Int) := by omega
                  have hsumw : IntKind.i64.wrap ((x.pos : Int) + (x.long : Int)) = (x.pos : Int) + (x.long : Int) := IntWalk.i64_in _ (by omega)
                  have hple : (x.pos : Int) ≤ (x.pos : Int) + (x.long : Int) := by omega
                  clear hb8 hrd8
                  go_region
                  have hs5 : wr.heap.size ≤ w5.heap.size := H5.out.2.1.size
                  have hbxe := Hbx.out
                  have h58 : Below wr.heap.size wr w8 := (H5.out.2.1.trans (HB7.out.2.mono hs5)).trans (H8.out.1.mono (Nat.le_trans hs5 HB7.out.2.size))
                  obtain ⟨w9, hw9⟩ : ∃ y, (w8.setCell ⟨bx, 0, none⟩ (.slice aD x.long (c7 - x.pos))).drew = y := ⟨_, rfl⟩
                  have hb9 : w9.heap[bx]? = some (.cells #[.slice aD x.long (c7 - x.pos), .int .i64 x.pack, .int .i64 x.pos] 104 (0, 0)) := by rw [← hw9]; exact setCell_at H8.out.2.1 0 _
                  have hU9 : Upd (· = bx) w8 w9 := by rw [← hw9]; exact (setCell_upd 0 _).drew
                  rw [hw9]
                  have hB9 : Below wr.heap.size wr w9 := h58.trans (hU9.below (fun q hq => by rw [hq]; exact Nat.le_of_eq hbxe) h58.size)
                  have hvb8 : Rd w8 (.slice aD x.long (c7 - x.pos)) (bcells (blobB d x).b) := by
                    have h1 := rd_sub5 H8.out.2.2 hnc7 x.pos x.long hsum
                    rw [haD] at h1
                    unfold blobB
                    rw [Hx.out.2.2.1, Hx.out.2.2.2.2]
                    unfold bcells at h1 ⊢
                    rw [List.map_take, List.map_drop]
                    exact h1
                  have hown : ∀ q, (Value.slice aD x.long (c7 - x.pos)).ownBlock = some q → w6.heap.size ≤ q ∧ q < w7.heap.size := fun q hq => by
                    refine Hr7.out.1.lt q ?_
                    rw [← haD] at hq
                    split at hq
                    · exact own_any5 hq
                    · exact own_add5 hq
                  have h56 : w5.heap.size ≤ w6.heap.size := HB6.out.size
                  have hb5l : bx < w5.heap.size := blk_lt H5.out.1
                  have hmkr : mk < wr.heap.size := HK.out.1.map.lt
                  have hvb9 : Rd w9 (.slice aD x.long (c7 - x.pos)) (bcells (blobB d x).b) := hvb8.keep hU9 (fun q hq e => by have := (hown q hq).1; omega)
                  have hK9 := HK.out.1.upd (Upd.ofBelow (fp := noFp) hB9) (fun h => h) (fun _ _ h => h)
                  have y1n : w9.cell? ⟨g1, j, none⟩ = some (.string x.name) := (hB9.cell (p := ⟨g1, j, none⟩) (cell_lt y1)).trans y1
                  have hky := key_of (s := x.name) (by simp only [maxLen]; omega)
                  have hjl4 : j < 4096 := by have := Hes2.out.len; omega
                  have hlenj : (blobsB d (es.take j)).length = j := by unfold blobsB; rw [List.length_map, List.length_take]; omega
                  have hkn : kB (blobsB d (es.take j)) x.name = none := by
                    have := kB_take_none (d := d) Hes2.out hjl
                    rw [Hx.out.1] at this
                    exact this
                  obtain ⟨_, _, _, _, _, _, hiso, _⟩ := hK9.look x.name
                  rw [hkn] at hiso
                  have hm9 := hK9.map
                  obtain ⟨w10, hrun, hm10, hg10, hs10⟩ := (show MapIs Tryz.prog 9 w9.drew mk (blobsB d (es.take j)).length g from hm9).run_update keyed Tryz.underlying56 hky (val := .agg #[.slice aD x.long (c7 - x.pos), .int .i64 x.pack, .int .i64 x.pos]) (by rw [hlenj]; simp only [maxLen]; omega)
                  have hU10 : Upd (· = mk) w9 w10 := (Upd.refl _ w9).drew.trans ((Upd.refl (· = mk) _).grown hg10 (fun j hj => by cases hj; exact Or.inl rfl)) (fun _ h => Or.inl h)
                  have hsucc := take_succ_B (d := d) Hes2.out hjl
                  rw [Hx.out.1] at hsucc
                  have hlp : (putB (blobsB d (es.take j)) x.name (blobB d x)).length = (blobsB d (es.take j)).length + 1 := by
                    rw [← hsucc, hlenj]; unfold blobsB; rw [List.length_map, List.length_take]; omega
                  have hst := hK9.stored x.name (blobB d x) (.slice aD x.long (c7 - x.pos)) (by
                    rw [hlp]
                    rw [show (g (.string x.name)).isSome = false from hiso] at hm10
                    exact hm10) hU10 (fun q hq => by have := (HK.out.2.1 q hq).1; omega) (hvb9.keep hU10 (fun q hq e => by have := (hown q hq).1; omega))
                  rw [← hsucc] at hst
                  have hS10 : ∀ q, (S q ∨ (Value.slice aD x.long (c7 - x.pos)).ownBlock = some q) → mk < q ∧ q < w10.heap.size := fun q hq => by
                    have h9 := hB9.size
                    have h10 := hU10.size
                    have h7 := hU9.size
                    have h8 := H8.out.1.size
                    rcases hq with hq | hq
                    · have := HK.out.2.1 q hq; omega
                    · have := hown q hq; omega
                  have hU410 : Upd (· = mk) w4 w10 := (HK.out.2.2.thenBelow hB9 HK.out.2.2.size).trans hU10 (fun _ h => Or.inl h)
                  have hok10 : ∀ z ∈ es.take (j + 1), okB d z := fun z hz => by
                    rw [List.take_succ_eq_append_getElem hjl, List.mem_append, Hx.out.1] at hz
                    rcases hz with hz | hz
                    · exact Hok.out z hz
                    · rw [List.mem_singleton.1 hz]; exact Hokx.out
                  have HN := Lib.hid (And.intro hst (And.intro hS10 (And.intro hU410 hok10)))
                  obtain ⟨s0, s1, s2', _⟩ := cells3 hb9
                  obtain ⟨s0d, s1d, s2d, _⟩ := cells3 (w := w9.drew) hb9
                  have y1d : w9.drew.cell? ⟨g1, j, none⟩ = some (.string x.name) := y1n
                  clear v0 v1 v2 f0 f1 f2 v0d v1d v2d f0d f1d f2d haD hw9 hvb8 hvb9 hown hK9 hm9 hiso hkn hlp hst hS10 hU410 hok10 hsucc hm10 hg10 hU10 hU9 hB9 h58 hb9 u8 u8d hlenj hs10
                  go_wp2_with fail
                  go_region
                  go_wp2_with fail
                  go_roundw
                  case rel => exact ⟨j + 1, _, _, by omega, by go_num, HN.out.1, HN.out.2.1, HN.out.2.2.1, HN.out.2.2.2⟩
                  case measure => simp [intOf]; omega
            · have he2b : (er2 != 0) = true := by simpa using he2
              have Hb := Lib.hid (Hf.out.1 x Hx.out.2.1 (fun h => by have h1 := h.1; rw [Hx.out.2.2.1, Hx.out.2.2.2.1] at h1; exact he2 h1))
              clear he2
              go_wp2_with fail
              go_quiet (fail)
              go_wp2_with fail
              go_ret2
              exact LoadPost.bad Hb.out (by decide) (below_drewN Hw7.out _)
          · obtain rfl : j = n := by omega
            have hji : ¬ (j : Int) < (j : Int) := by omega
            clear hlt
            have htk : es.take j = es := List.take_of_length_le (by rw [Hn.out]; exact Nat.le_refl _)
            obtain ⟨hK, hS, hU⟩ := HK.out
            have hok := Hok.out
            rw [htk] at hK hok
            have Hg := Lib.hid (Hf.out.2 hok)
            have HK2 := Lib.hid (And.intro hK hS)
            have hmw : w.heap.size ≤ mk ∧ mk < wr.heap.size := ⟨Nat.le_of_eq Hmk2.out, hK.map.lt⟩
            clear hK hS hU hok htk HK
            go_wp2_with fail
            go_ret2
            exact LoadPost.good Hg.out Hbr.out hmw HK2.out.1 HK2.out.2
  · have h0b : (er != 0) = true := by simpa using h0
    have hlo := pLoad_err (d := d) (k := k) (by rw [Hs.out.1, Hs.out.2.1]; exact h0)
    rw [Hs.out.1, Hs.out.2.1, Hr.out] at hlo
    by_cases h13 : er = 13
    · subst h13
      rw [if_pos rfl] at hlo
      by_cases hk0 : k = 0
      · subst hk0
        rw [if_pos rfl] at hlo
        have Hg := Lib.hid hlo
        clear hlo h0 h0b
        go_enter Tryz.func60, Tryz.ntmps60
        go_wp2_with first
          | (go_at_call 52; refine HF.out.mono ?_; rintro e w2 ⟨rfl, hB2⟩; have HB2 := Lib.hid hB2; clear hB2)
          | (go_at_call 26; refine (HR.out w2 (Hmk.out w2 HB2.out).1).mono ?_; rintro e w3 ⟨a, c, rfl, hrow, hB3⟩; have HB3 := Lib.hid (HB2.out.trans (hB3.mono HB2.out.size)); clear hrow hB3)
        go_ret2
        obtain ⟨m1, m2, m3⟩ := Hmk.out w3 HB3.out
        exact LoadPost.good Hg.out m1 m2 m3 (fun _ h => h.elim)
      · rw [if_neg hk0] at hlo
        have hk0I : ((k : Int) == 0) = false := by simpa using (fun e => hk0 (by omega) : ¬ (k : Int) = 0)
        have Hg := Lib.hid hlo
        clear hlo h0 h0b hk0
        go_enter Tryz.func60, Tryz.ntmps60
        go_wp2_with first
          | (go_at_call 52; refine HF.out.mono ?_; rintro e w2 ⟨rfl, hB2⟩; have HB2 := Lib.hid hB2; clear hB2)
          | (go_at_call 26; refine (HR.out w2 (Hmk.out w2 HB2.out).1).mono ?_; rintro e w3 ⟨a, c, rfl, hrow, hB3⟩; have HB3 := Lib.hid (HB2.out.trans (hB3.mono HB2.out.size)); clear hrow hB3)
        go_ret2
        exact LoadPost.bad Hg.out (by decide) (Hmk.out w3 HB3.out).1
    · rw [if_neg h13] at hlo
      have h13b : (er == 13) = false := by simpa using h13
      have Hg := Lib.hid (And.intro hlo h0)
      clear hlo h0 h13
      go_enter Tryz.func60, Tryz.ntmps60
      go_wp2_with first
        | (go_at_call 52; refine HF.out.mono ?_; rintro e w2 ⟨rfl, hB2⟩; have HB2 := Lib.hid hB2; clear hB2)
        | (go_at_call 26; refine (HR.out w2 (Hmk.out w2 HB2.out).1).mono ?_; rintro e w3 ⟨a, c, rfl, hrow, hB3⟩; have HB3 := Lib.hid (HB2.out.trans (hB3.mono HB2.out.size)); clear hrow hB3)
      go_ret2
      exact LoadPost.bad Hg.out.1 Hg.out.2 (Hmk.out w3 HB3.out).1
end
end Go.Proofs.YtbepcjajbcecnaaGreatDoor
