/- Arguments of whole numbers alone are opened and shut; no conditions. -/
import Derived.OpenShut
import Derived.ProofKit
import Derived.Lib.SmallJoins
namespace Go.Vm
open Go.ChangeShapes Go.WideShapes Go.ChangeAt Go.RowKit
set_option linter.unusedVariables false
set_option linter.unusedSimpArgs false

/-! ### Arguments of whole numbers alone: structs and arrays, by value -/
def seqOk (P : Program) : Nat → List Field → Nat → Bool
  | off, [], n => Nat.beq off n
  | off, f :: fs, n => Nat.beq f.offset off && seqOk P (off + P.cellsOf f.type) fs n

def onlyK (P : Program) (k : IntKind) : Nat → TypeId → Bool
  | 0, _ => false
  | m + 1, t =>
    match P.underlying t with
    | some (.int k') => decide (k' = k)
    | some (.struct fs) => fs.toList.all (fun f => onlyK P k m f.type) && seqOk P 0 fs.toList (P.cellsOf t)
    | some (.array n e) => onlyK P k m e && Nat.beq (n * P.cellsOf e) (P.cellsOf t)
    | _ => false

theorem seq_mem {P : Program} {Q : Value → Prop} {cs : List Value} : ∀ {fs : List Field} {off : Nat}, seqOk P off fs cs.length = true →
    (∀ f ∈ fs, ∀ c ∈ (cs.drop f.offset).take (P.cellsOf f.type), Q c) → ∀ c ∈ cs.drop off, Q c
  | [], off, h, _, c, hc => by
    have : off = cs.length := Nat.eq_of_beq_eq_true h
    subst this
    simp at hc
  | f :: fs, off, h, hq, c, hc => by
    simp only [seqOk, Bool.and_eq_true] at h
    have h1 : f.offset = off := Nat.eq_of_beq_eq_true h.1
    rw [← List.take_append_drop (P.cellsOf f.type) (cs.drop off)] at hc
    rcases List.mem_append.1 hc with hc | hc
    · exact hq f (by simp) c (by rw [h1]; exact hc)
    · rw [List.drop_drop] at hc
      exact seq_mem h.2 (fun g hg => hq g (by simp [hg])) c hc

theorem arr_mem {Q : Value → Prop} {cs : List Value} {m : Nat} : ∀ (n : Nat), cs.length = n * m → (∀ i, i < n → ∀ c ∈ (cs.drop (i * m)).take m, Q c) → ∀ c ∈ cs, Q c := by
  intro n hl h c hc
  obtain ⟨j, hj, rfl⟩ := List.mem_iff_getElem.1 hc
  have hm : 0 < m := by
    rcases Nat.eq_zero_or_pos m with h0 | h0
    · subst h0; omega
    · exact h0
  have hi : j / m < n := by
    rw [Nat.div_lt_iff_lt_mul hm]; omega
  refine h (j / m) hi _ ?_
  have hjm : j / m * m + j % m = j := by rw [Nat.mul_comm]; exact Nat.div_add_mod j m
  have hlt := Nat.mod_lt j hm
  refine List.mem_iff_getElem.2 ⟨j % m, ?_, ?_⟩
  · simp only [List.length_take, List.length_drop]
    omega
  · simp only [List.getElem_take, List.getElem_drop]
    congr 1

section
variable {H : Type} {enc : TypeId × Value → H} {P : Program} {k : IntKind}

theorem mapM_congr_some {α β : Type} {f g : α → Option β} : ∀ {l : List α} {r : List β}, l.mapM f = some r → (∀ a ∈ l, ∀ b, f a = some b → g a = some b) → l.mapM g = some r
  | [], r, h, _ => by simpa using h
  | a :: l, r, h, hg => by
    rw [List.mapM_cons] at h ⊢
    cases ha : f a with
    | none => rw [ha] at h; cases h
    | some b =>
      rw [ha] at h
      rw [hg a (by simp) b ha]
      cases hl : l.mapM f with
      | none => rw [hl] at h; cases h
      | some bs =>
        rw [hl] at h
        rw [mapM_congr_some hl fun a' h' b' e => hg a' (by simp [h']) b' e]
        exact h

theorem mapM_mem {α β : Type} {f : α → Option β} : ∀ {l : List α} {r : List β}, l.mapM f = some r → (∀ b ∈ r, ∃ a ∈ l, f a = some b) ∧ (∀ a ∈ l, ∃ b, f a = some b)
  | [], r, h => by simp at h; subst h; simp
  | a :: l, r, h => by
    rw [List.mapM_cons] at h
    cases ha : f a with
    | none => rw [ha] at h; cases h
    | some b =>
      rw [ha] at h
      cases hl : l.mapM f with
      | none => rw [hl] at h; cases h
      | some bs =>
        rw [hl] at h
        cases h
        obtain ⟨h1, h2⟩ := mapM_mem hl
        constructor
        · intro c hc
          rcases List.mem_cons.1 hc with rfl | hc
          · exact ⟨a, by simp, ha⟩
          · obtain ⟨a', m1, m2⟩ := h1 c hc
            exact ⟨a', by simp [m1], m2⟩
        · intro a' ha'
          rcases List.mem_cons.1 ha' with rfl | ha'
          · exact ⟨b, ha⟩
          · exact h2 a' ha'

theorem trod_only : ∀ {m : Nat} {t : TypeId}, onlyK P k m t = true → ∀ (w : World) (base : Nat) (spare : Nat → Bool) (held : Bool) (fuel : Nat) (cs : List Value) (x : DataW H × List MemPlace),
    DataW.trod enc P w base spare held fuel t cs = some x → x.2 = [] ∧ (∀ c ∈ cs, ∃ n, c = .int k n ∧ (Lit.int k n).wf = true) ∧
      ∀ (w' : World) (base' : Nat) (spare' : Nat → Bool) (held' : Bool), DataW.trod enc P w' base' spare' held' fuel t cs = some x
  | 0, _, h => by cases h
  | m + 1, t, h => fun w base spare held fuel cs x hx => by
    cases fuel with
    | zero => simp [DataW.trod] at hx
    | succ fuel =>
      unfold onlyK at h
      split at h
      · rename_i k' hu
        have hk : k' = k := by simpa using h
        subst hk
        have hx0 := hx
        obtain ⟨n, rfl, rfl, hw⟩ := DataW.trod_int hu hx
        refine ⟨rfl, fun c hc => ⟨n, by simpa using hc, hw⟩, fun w' base' spare' held' => trod_int_mk _ hu hw⟩
      · rename_i fs hu
        simp only [Bool.and_eq_true, List.all_eq_true] at h
        unfold DataW.trod at hx
        rw [hu] at hx
        simp only at hx
        split at hx
        · rename_i hl
          simp only [Option.map_eq_some_iff] at hx
          obtain ⟨xs, hmap, rfl⟩ := hx
          obtain ⟨m1, m2⟩ := mapM_mem hmap
          refine ⟨?_, ?_, fun w' base' spare' held' => ?_⟩
          · refine List.flatMap_eq_nil_iff.2 fun y hy => ?_
            obtain ⟨f, hfm, hfe⟩ := m1 y hy
            exact (trod_only (h.1 f hfm) _ _ _ _ _ _ _ hfe).1
          · have := seq_mem (P := P) (Q := fun c => ∃ n, c = .int k n ∧ (Lit.int k n).wf = true) (cs := cs) (fs := fs.toList) (off := 0) (by rw [hl]; exact h.2) fun f hfm => by
              obtain ⟨b, hb⟩ := m2 f hfm
              exact (trod_only (h.1 f hfm) _ _ _ _ _ _ _ hb).2.1
            simpa using this
          · exact trod_struct_mk hu hl (mapM_congr_some hmap fun f hfm b hb => (trod_only (h.1 f hfm) _ _ _ _ _ _ _ hb).2.2 w' base' spare' held')
        · cases hx
      · rename_i n e hu
        simp only [Bool.and_eq_true] at h
        have hx0 := hx
        unfold DataW.trod at hx
        rw [hu] at hx
        simp only at hx
        split at hx
        · rename_i hl
          simp only [Option.map_eq_some_iff] at hx
          obtain ⟨xs, hmap, rfl⟩ := hx
          obtain ⟨m1, m2⟩ := mapM_mem hmap
          refine ⟨?_, ?_, fun w' base' spare' held' => ?_⟩
          · refine List.flatMap_eq_nil_iff.2 fun y hy => ?_
            obtain ⟨f, hfm, hfe⟩ := m1 y hy
            exact (trod_only h.1 _ _ _ _ _ _ _ hfe).1
          · refine arr_mem (m := P.cellsOf e) n (by rw [hl]; exact (Nat.eq_of_beq_eq_true h.2).symm) fun i hi => ?_
            obtain ⟨b, hb⟩ := m2 i (by simpa using hi)
            exact (trod_only h.1 _ _ _ _ _ _ _ hb).2.1
          · have := mapM_congr_some (g := fun i => DataW.trod enc P w' base' spare' held' fuel e ((cs.drop (i * P.cellsOf e)).take (P.cellsOf e))) hmap fun i hi b hb => (trod_only h.1 _ _ _ _ _ _ _ hb).2.2 w' base' spare' held'
            unfold DataW.trod
            rw [hu]
            simp only [hl, if_true, this, Option.map_some]
        · cases hx
      · cases h

/-- OPENED: such an argument, if it is a struct or an array. -/
theorem open_only {m : Nat} {t : TypeId} (hk : onlyK P k m t = true) {w : World} {base : Nat} {spare : Nat → Bool} {held : Bool} {v : Value} {d : DataW H} {p : List MemPlace}
    (h : DataW.Trod enc P w base spare held t v d p) : p = [] ∧ (∀ c ∈ v.cells.toList, ∃ n, c = .int k n ∧ (Lit.int k n).wf = true) ∧
      ∀ (w' : World) (base' : Nat) (spare' : Nat → Bool) (held' : Bool), DataW.Trod enc P w' base' spare' held' t v d [] := by
  obtain ⟨fuel, hf⟩ := h
  obtain ⟨h1, h2, h3⟩ := trod_only hk _ _ _ _ _ _ _ hf
  have h1' : p = [] := h1
  subst h1'
  exact ⟨rfl, h2, fun w' base' spare' held' => ⟨fuel, h3 w' base' spare' held'⟩⟩
end

/-- SHUT: arguments and results without places; the call left alone what was there. -/
theorem post_below {H : Type} {enc : TypeId × Value → H} {P : Program} {f : Func} {s : ChangeSpec} {apart fresh handsOn again : Bool} {W W' : World} {args : Array Value} {v : Value} {ds gs : List (DataW H)}
    (hW : DataW.Whole enc P f.params.toList s.vars apart W args.toList ds gs []) (hg : Below W.heap.size W W')
    (hres : ∀ (b : Nat) (sp : Nat → Bool) (hd : Bool), DataW.TrodAll enc P W' b sp hd f.resultTypes.toList (v.resultList f.resultTypes.size) (s.fn H (ds ++ gs)).results [])
    (hargs : ∀ sp : Nat → Bool, DataW.TrodAll enc P W' 0 sp true f.params.toList args.toList (s.fn H (ds ++ gs)).args [])
    (hvars : ∀ sp : Nat → Bool, DataW.TrodVars enc P W' sp s.vars (s.fn H (ds ++ gs)).vars [])
    (hok : ∀ (j : Nat) (t : TypeId) (r : Value), f.resultTypes[j]? = some t → (v.resultList f.resultTypes.size)[j]? = some r → Value.okWide P W' .any 0 t r) :
    s.post enc P f apart fresh handsOn again W args v W' := by
  have h1 := trodAll_append (hargs fun _ => true) (hres 0 (fun _ => true) true)
  refine ⟨ds, gs, [], [], [], [], hW, hres _ _ _, hargs _, hvars _, hg.frame _, fun _ => ⟨hok, _, _, [], ⟨[], [], by simpa using h1, hvars _, rfl, fun b off hp => by simp at hp, fun _ => by simp⟩, fun p hp => by simp at hp⟩⟩

theorem ints_of {k : IntKind} : ∀ {l : List Value}, (∀ c ∈ l, ∃ n, c = .int k n ∧ (Lit.int k n).wf = true) → ∃ ns : List Int, l = ns.map (Value.int k) ∧ ∀ n ∈ ns, (Lit.int k n).wf = true
  | [], _ => ⟨[], rfl, by simp⟩
  | c :: l, h => by
    obtain ⟨n, rfl, hn⟩ := h c (by simp)
    obtain ⟨ns, rfl, hns⟩ := ints_of (l := l) fun c hc => h c (by simp [hc])
    refine ⟨n :: ns, rfl, fun a ha => ?_⟩
    rcases List.mem_cons.1 ha with rfl | ha
    · exact hn
    · exact hns a ha
end Go.Vm
