/-
  A part of the proof of the statement that the claim names: see the last file.
-/
import Derived.Test.YtifnpljmjhnbaaaGreatDoorAm4
namespace Go.Am
noncomputable section
open Go Go.RowKit


variable {H : Type} {enc : TypeId × Value → H} {P : Program} {w : World} {base : Nat} {sp : Nat → Bool} {held : Bool}

theorem rep_fitS {ss : List Sh} {cs : List Value} {c : Nat} (hc : c = ss.length) : ∀ (n : Nat), (∀ i, i < n → FitS w ss ((cs.drop (i * c)).take c)) → FitS w (List.replicate n ss).flatten (cs.take (n * c))
  | 0, _ => by simpa using FitS.nil
  | n + 1, h => by
    have h1 := rep_fitS hc n fun i hi => h i (by omega)
    have h2 := h n (by omega)
    have e : (List.replicate (n + 1) ss).flatten = (List.replicate n ss).flatten ++ ss := by
      rw [List.replicate_succ', List.flatten_append]; simp
    rw [e]
    have := h1.append h2
    rwa [← List.take_add, show n * c + c = (n + 1) * c by rw [Nat.succ_mul]] at this

def leavesX (P : Program) : Nat → TypeId → Option (List Sh)
  | 0, _ => none
  | m + 1, t => match P.underlying t with
    | some (.array n e) => match leavesX P m e with
      | some ss => match Nat.beq (P.cellsOf e) ss.length && Nat.beq (P.cellsOf t) (n * ss.length) with
        | true => some (List.replicate n ss).flatten
        | false => none
      | none => none
    | some (.struct fs) => match fieldsS (leavesX P m) P fs.toList 0 with
      | some ss => match Nat.beq (P.cellsOf t) ss.length with
        | true => some ss
        | false => none
      | none => none
    | _ => leavesS P 8 t

theorem trod_fitX : ∀ (m : Nat) (t : TypeId) (ss : List Sh) (fuel : Nat) (cs : List Value) (x : DataW H × List MemPlace), leavesX P m t = some ss → DataW.trod enc P w base sp held fuel t cs = some x → FitS w ss cs
  | 0, t, ks, fuel, cs, x, h, _ => by simp [leavesX] at h
  | m + 1, t, ks, fuel, cs, x, h, hx => by
    unfold leavesX at h
    split at h
    · rename_i n e hu
      cases fuel with
      | zero => simp [DataW.trod] at hx
      | succ fuel =>
        unfold DataW.trod at hx
        rw [hu] at hx
        split at h
        · rename_i ks' hk
          split at h
          · rename_i hb
            simp only [Bool.and_eq_true, Nat.beq_eq] at hb
            cases h
            simp only at hx
            split at hx
            · rename_i hlen
              rw [Option.map_eq_some_iff] at hx
              obtain ⟨xs, hxs, _⟩ := hx
              have := rep_fitS (ss := ks') (cs := cs) (c := P.cellsOf e) hb.1 n fun i hi => by
                obtain ⟨y, hy⟩ := mapM_all hxs i (by simpa using hi)
                exact trod_fitX m e ks' fuel _ y hk hy
              rw [hb.1, ← hb.2, ← hlen] at this
              simpa using this
            · cases hx
          · cases h
        · cases h
    · rename_i fs hu
      cases fuel with
      | zero => simp [DataW.trod] at hx
      | succ fuel =>
        unfold DataW.trod at hx
        rw [hu] at hx
        split at h
        · rename_i ks' hk
          split at h
          · rename_i hb
            rw [Nat.beq_eq] at hb
            cases h
            simp only at hx
            split at hx
            · rename_i hlen
              rw [Option.map_eq_some_iff] at hx
              obtain ⟨xs, hxs, _⟩ := hx
              have := fields_fitS (P := P) (T := DataW.trod enc P w base sp held fuel) (cs := cs) (fun t ks us x h1 h2 => trod_fitX m t ks fuel us x h1 h2) fs.toList 0 ks hk fun f hf => mapM_all hxs f hf
              rw [← hb, ← hlen] at this
              simpa using this
            · cases hx
          · cases h
        · cases h
    · exact trod_fitS 8 t ks fuel cs x h hx

theorem x_imp {t : TypeId} {ss : List Sh} {v : Value} {d : DataW H} {ps : List MemPlace} {r : Reach} {b0 : Nat} (h : aggT P t = true) (hs : leavesX P 8 t = some ss) (hv : Value.okWide P w r b0 t v) (hd : DataW.Trod enc P w base sp held t v d ps) :
    ∃ a : ArgT ss, WfA ss a ∧ ∀ (G : Gl) (GB : Nat), ImpOK G GB w (.agg (toShs ss a)) v := by
  obtain ⟨f, hf⟩ := hd
  obtain ⟨cs, rfl⟩ : ∃ cs, v = .agg cs := by
    unfold aggT at h
    unfold Value.okWide at hv
    split at h
    · rename_i hu; rw [hu] at hv; exact ⟨hv.choose, hv.choose_spec.1⟩
    · rename_i hu; rw [hu] at hv; exact ⟨hv.choose, hv.choose_spec.1⟩
    · cases h
  exact agg_impS (trod_fitX 8 t ss f _ _ hs hf)
end
end Go.Am
