/-
  Plain Lean: what is read of an image is in its bounds, and written anew it is no longer than what was read. Conditions: those in each theorem's own statement.
-/
import Derived.Test.YtefgajipakjpeaaDoorRound
namespace Go.Proofs.YtefgajipakjpeaaDoor
open Go.RowKit

def RdrP {α : Type} (f : St → α × St) (P : α → Prop) : Prop := ∀ s, s.rest.length ≤ 1048576 → P (f s).1
theorem RdrP.int : RdrP rInt I64 := fun _ _ => unzigzag_i64 (rU_lt _)
theorem RdrP.text : RdrP rText (fun l => l.length ≤ maxLen) := fun s h => by
  have := rNum_rest_le s
  unfold rText
  split
  · simp only [List.length_take]; unfold maxLen; omega
  · simp
theorem RdrP.pure {α : Type} {P : α → Prop} {a : α} (h : P a) : RdrP (fun s => (a, s)) P := fun _ _ => h
theorem RdrP.bind {α β : Type} {f : St → α × St} {g : α → St → β × St} {P : α → Prop} {Q : β → Prop} (hf : RdrP f P) (ho : RdrOk f) (hg : ∀ a, P a → RdrP (g a) Q) : RdrP (bR f g) Q :=
  fun s h => hg _ (hf s h) _ (Nat.le_trans (ho.le s) h)
theorem rItems_all {α : Type} {f : St → α × St} {P : α → Prop} (hf : RdrP f P) (ho : RdrOk f) : ∀ (n : Nat) (s : St), s.rest.length ≤ 1048576 → ∀ a ∈ (rItems f n s).1, P a
  | 0, s, _ => by simp [rItems]
  | n + 1, s, h => by
    unfold rItems
    split
    · simp
    · intro a ha
      rcases List.mem_cons.1 ha with rfl | ha
      · exact hf s h
      · exact rItems_all hf ho n _ (Nat.le_trans (ho.le s) h) a ha
theorem RdrP.lst {α : Type} {f : St → α × St} {P : α → Prop} (hf : RdrP f P) (ho : RdrOk f) : RdrP (rLst f) (fun l => ∀ a ∈ l, P a) := fun s h => rItems_all hf ho _ _ (Nat.le_trans (rNum_rest_le s) h)

/-- How long what was read is when it is written: c bytes were read before. -/
def RdrLen {α : Type} (f : St → α × St) (c : Nat) (len : α → Nat) : Prop := ∀ s, (f s).2.bad = false → len (f s).1 + (f s).2.rest.length ≤ c + s.rest.length
theorem RdrLen.int : RdrLen rInt 0 (fun n => (wInt n).length) := fun s h => by
  have h1 := (rInt_r s h).1
  have h2 := congrArg List.length h1
  rw [List.length_append] at h2
  show (wInt (rInt s).1).length + (rInt s).2.rest.length ≤ _
  omega
theorem RdrLen.text : RdrLen rText 0 (fun l => (wText l).length) := fun s h => by
  have h1 := (rText_r s h).1
  have h2 := congrArg List.length h1
  rw [List.length_append] at h2
  show (wText (rText s).1).length + (rText s).2.rest.length ≤ _
  omega
theorem RdrLen.pure {α : Type} {c : Nat} {len : α → Nat} {a : α} (h : len a ≤ c) : RdrLen (fun s => (a, s)) c len := fun s _ => by
  show len a + s.rest.length ≤ _
  omega
theorem RdrLen.bind {α β : Type} {f : St → α × St} {g : α → St → β × St} {c : Nat} {lf : α → Nat} {len : β → Nat} (hf : RdrLen f 0 lf) (ho : ∀ a, RdrOk (g a)) (hg : ∀ a, RdrLen (g a) (c + lf a) len) : RdrLen (bR f g) c len := fun s h => by
  have h1 := hg (f s).1 (f s).2 h
  have h2 := hf s ((ho _).bad _ h)
  show len (g (f s).1 (f s).2).1 + (g (f s).1 (f s).2).2.rest.length ≤ _
  omega
theorem rItems_len {α : Type} {f : St → α × St} {w : α → List UInt8} (hf : RdrLen f 0 (fun a => (w a).length)) (ho : RdrOk f) : ∀ (n : Nat) (s : St), (rItems f n s).2.bad = false → ((rItems f n s).1.flatMap w).length + (rItems f n s).2.rest.length ≤ s.rest.length ∧ (rItems f n s).1.length = n
  | 0, s, _ => by simp [rItems]
  | n + 1, s, h => by
    unfold rItems at h ⊢
    by_cases hb : s.bad = true
    · rw [if_pos hb] at h
      simp only at h
      rw [h] at hb
      cases hb
    · rw [if_neg hb] at h ⊢
      have h1 := rItems_len hf ho n (f s).2 h
      have h2 := hf s (rItems_bad f ho.bad n _ h)
      simp only at h2
      simp only [List.flatMap_cons, List.length_append, List.length_cons]
      omega
theorem RdrLen.lst {α : Type} {f : St → α × St} {w : α → List UInt8} (hf : RdrLen f 0 (fun a => (w a).length)) (ho : RdrOk f) : RdrLen (rLst f) 0 (fun l => (wList w l).length) := fun s h => by
  have h1 := rItems_len hf ho (rNum s).1 (rNum s).2 h
  have h2 := (rNum_r s (rItems_bad f ho.bad _ _ h)).1
  have h3 := congrArg List.length h2
  rw [List.length_append] at h3
  show (wList w (rItems f (rNum s).1 (rNum s).2).1).length + (rItems f (rNum s).1 (rNum s).2).2.rest.length ≤ _
  unfold wList
  rw [List.length_append, h1.2]
  omega
theorem boolI_len (n : Int) : (wInt (boolI (n != 0))).length ≤ (wInt n).length := by
  have h := Lib.uvarint_pos (Lib.zigzag n)
  have e : (wInt (boolI (n != 0))).length = 1 := by
    cases (n != 0)
    · unfold wInt; rw [Lib.uvarint_small (by decide)]; rfl
    · unfold wInt; rw [Lib.uvarint_small (by decide)]; rfl
  rw [e]
  exact h
theorem rInt__okv : RdrP rInt_ Int_D.Ok := (RdrP.bind RdrP.int RdrOk.int fun z0 h0 => (RdrP.pure ⟨trivial, h0⟩))
theorem rInt__len : RdrLen rInt_ 0 (fun x => (wInt_ x).length) := (RdrLen.bind RdrLen.int (fun _ => RdrOk.pure _) fun z0 => (RdrLen.pure (by simp only [wInt_]; omega)))
theorem rStr_okv : RdrP rStr StrD.Ok := (RdrP.bind RdrP.text RdrOk.text fun z0 h0 => (RdrP.pure ⟨trivial, h0⟩))
theorem rStr_len : RdrLen rStr 0 (fun x => (wStr x).length) := (RdrLen.bind RdrLen.text (fun _ => RdrOk.pure _) fun z0 => (RdrLen.pure (by simp only [wStr]; omega)))
theorem rPiece_okv : RdrP rPiece PieceD.Ok := (RdrP.bind RdrP.int RdrOk.int fun z0 h0 => (RdrP.bind RdrP.int RdrOk.int fun z1 h1 => (RdrP.bind RdrP.int RdrOk.int fun z2 h2 => (RdrP.pure ⟨trivial, h0, h1, h2⟩))))
theorem rPiece_len : RdrLen rPiece 0 (fun x => (wPiece x).length) := (RdrLen.bind RdrLen.int (fun _ => (RdrOk.int).bind fun _ => (RdrOk.int).bind fun _ => RdrOk.pure _) fun z0 => (RdrLen.bind RdrLen.int (fun _ => (RdrOk.int).bind fun _ => RdrOk.pure _) fun z1 => (RdrLen.bind RdrLen.int (fun _ => RdrOk.pure _) fun z2 => (RdrLen.pure (by simp only [wPiece, List.length_append]; omega)))))
theorem rPlaced_okv : RdrP rPlaced PlacedD.Ok := (RdrP.bind RdrP.text RdrOk.text fun z0 h0 => (RdrP.bind RdrP.text RdrOk.text fun z1 h1 => (RdrP.bind RdrP.int RdrOk.int fun z2 h2 => (RdrP.bind RdrP.int RdrOk.int fun z3 h3 => (RdrP.bind RdrP.int RdrOk.int fun z4 h4 => (RdrP.bind RdrP.text RdrOk.text fun z5 h5 => (RdrP.bind RdrP.text RdrOk.text fun z6 h6 => (RdrP.pure ⟨trivial, h0, h1, h2, h3, h4, h5, h6⟩))))))))
theorem rPlaced_len : RdrLen rPlaced 0 (fun x => (wPlaced x).length) := (RdrLen.bind RdrLen.text (fun _ => (RdrOk.text).bind fun _ => (RdrOk.int).bind fun _ => (RdrOk.int).bind fun _ => (RdrOk.int).bind fun _ => (RdrOk.text).bind fun _ => (RdrOk.text).bind fun _ => RdrOk.pure _) fun z0 => (RdrLen.bind RdrLen.text (fun _ => (RdrOk.int).bind fun _ => (RdrOk.int).bind fun _ => (RdrOk.int).bind fun _ => (RdrOk.text).bind fun _ => (RdrOk.text).bind fun _ => RdrOk.pure _) fun z1 => (RdrLen.bind RdrLen.int (fun _ => (RdrOk.int).bind fun _ => (RdrOk.int).bind fun _ => (RdrOk.text).bind fun _ => (RdrOk.text).bind fun _ => RdrOk.pure _) fun z2 => (RdrLen.bind RdrLen.int (fun _ => (RdrOk.int).bind fun _ => (RdrOk.text).bind fun _ => (RdrOk.text).bind fun _ => RdrOk.pure _) fun z3 => (RdrLen.bind RdrLen.int (fun _ => (RdrOk.text).bind fun _ => (RdrOk.text).bind fun _ => RdrOk.pure _) fun z4 => (RdrLen.bind RdrLen.text (fun _ => (RdrOk.text).bind fun _ => RdrOk.pure _) fun z5 => (RdrLen.bind RdrLen.text (fun _ => RdrOk.pure _) fun z6 => (RdrLen.pure (by simp only [wPlaced, List.length_append]; omega)))))))))
theorem rExport_okv : RdrP rExport ExportD.Ok := (RdrP.bind RdrP.text RdrOk.text fun z0 h0 => (RdrP.bind RdrP.text RdrOk.text fun z1 h1 => (RdrP.bind RdrP.int RdrOk.int fun z2 h2 => (RdrP.bind RdrP.int RdrOk.int fun z3 h3 => (RdrP.bind RdrP.int RdrOk.int fun z4 h4 => (RdrP.bind RdrP.int RdrOk.int fun z5 h5 => (RdrP.pure ⟨trivial, h0, h1, h3, h4, h5⟩)))))))
theorem rExport_len : RdrLen rExport 0 (fun x => (wExport x).length) := (RdrLen.bind RdrLen.text (fun _ => (RdrOk.text).bind fun _ => (RdrOk.int).bind fun _ => (RdrOk.int).bind fun _ => (RdrOk.int).bind fun _ => (RdrOk.int).bind fun _ => RdrOk.pure _) fun z0 => (RdrLen.bind RdrLen.text (fun _ => (RdrOk.int).bind fun _ => (RdrOk.int).bind fun _ => (RdrOk.int).bind fun _ => (RdrOk.int).bind fun _ => RdrOk.pure _) fun z1 => (RdrLen.bind RdrLen.int (fun _ => (RdrOk.int).bind fun _ => (RdrOk.int).bind fun _ => (RdrOk.int).bind fun _ => RdrOk.pure _) fun z2 => (RdrLen.bind RdrLen.int (fun _ => (RdrOk.int).bind fun _ => (RdrOk.int).bind fun _ => RdrOk.pure _) fun z3 => (RdrLen.bind RdrLen.int (fun _ => (RdrOk.int).bind fun _ => RdrOk.pure _) fun z4 => (RdrLen.bind RdrLen.int (fun _ => RdrOk.pure _) fun z5 => (RdrLen.pure (by have b2 := boolI_len z2; simp only [wExport, List.length_append]; omega))))))))
theorem rImport_okv : RdrP rImport ImportD.Ok := (RdrP.bind RdrP.text RdrOk.text fun z0 h0 => (RdrP.bind RdrP.text RdrOk.text fun z1 h1 => (RdrP.bind RdrP.int RdrOk.int fun z2 h2 => (RdrP.bind RdrP.int RdrOk.int fun z3 h3 => (RdrP.bind RdrP.int RdrOk.int fun z4 h4 => (RdrP.pure ⟨trivial, h0, h1, h2⟩))))))
theorem rImport_len : RdrLen rImport 0 (fun x => (wImport x).length) := (RdrLen.bind RdrLen.text (fun _ => (RdrOk.text).bind fun _ => (RdrOk.int).bind fun _ => (RdrOk.int).bind fun _ => (RdrOk.int).bind fun _ => RdrOk.pure _) fun z0 => (RdrLen.bind RdrLen.text (fun _ => (RdrOk.int).bind fun _ => (RdrOk.int).bind fun _ => (RdrOk.int).bind fun _ => RdrOk.pure _) fun z1 => (RdrLen.bind RdrLen.int (fun _ => (RdrOk.int).bind fun _ => (RdrOk.int).bind fun _ => RdrOk.pure _) fun z2 => (RdrLen.bind RdrLen.int (fun _ => (RdrOk.int).bind fun _ => RdrOk.pure _) fun z3 => (RdrLen.bind RdrLen.int (fun _ => RdrOk.pure _) fun z4 => (RdrLen.pure (by have b3 := boolI_len z3; have b4 := boolI_len z4; simp only [wImport, List.length_append]; omega)))))))
theorem rDyn_okv : RdrP rDyn DynD.Ok := (RdrP.bind RdrP.int RdrOk.int fun z0 h0 => (RdrP.bind RdrP.int RdrOk.int fun z1 h1 => (RdrP.bind RdrP.int RdrOk.int fun z2 h2 => (RdrP.bind RdrP.int RdrOk.int fun z3 h3 => (RdrP.pure ⟨trivial, h0, h1, h2, h3⟩)))))
theorem rDyn_len : RdrLen rDyn 0 (fun x => (wDyn x).length) := (RdrLen.bind RdrLen.int (fun _ => (RdrOk.int).bind fun _ => (RdrOk.int).bind fun _ => (RdrOk.int).bind fun _ => RdrOk.pure _) fun z0 => (RdrLen.bind RdrLen.int (fun _ => (RdrOk.int).bind fun _ => (RdrOk.int).bind fun _ => RdrOk.pure _) fun z1 => (RdrLen.bind RdrLen.int (fun _ => (RdrOk.int).bind fun _ => RdrOk.pure _) fun z2 => (RdrLen.bind RdrLen.int (fun _ => RdrOk.pure _) fun z3 => (RdrLen.pure (by simp only [wDyn, List.length_append]; omega))))))
structure VerDefP.Ok (x : VerDefP) : Prop where
  f0 : x.f0.length ≤ maxLen
  f1 : ∀ y ∈ x.f1, y.Ok
theorem rVerDef_okv : RdrP rVerDef VerDefP.Ok := (RdrP.bind RdrP.text RdrOk.text fun z0 h0 => (RdrP.bind (rStr_okv.lst rStr_rok) rStr_rok.lst fun z1 h1 => (RdrP.pure ⟨h0, h1⟩)))
theorem rVerDef_len : RdrLen rVerDef 0 (fun x => (wVerDefP x).length) := (RdrLen.bind RdrLen.text (fun _ => (rStr_rok.lst).bind fun _ => RdrOk.pure _) fun z0 => (RdrLen.bind (rStr_len.lst rStr_rok) (fun _ => RdrOk.pure _) fun z1 => (RdrLen.pure (by simp only [wVerDefP, List.length_append]; omega))))
structure ConvP.Ok (x : ConvP) : Prop where
  f0 : x.f0.length ≤ maxLen
  f1 : x.f1.length ≤ maxLen
  f2 : x.f2.length ≤ maxLen
  f3 : ∀ y ∈ x.f3, y.Ok
  f4 : I64 x.f4
theorem rConv_okv : RdrP rConv ConvP.Ok := (RdrP.bind RdrP.text RdrOk.text fun z0 h0 => (RdrP.bind RdrP.text RdrOk.text fun z1 h1 => (RdrP.bind RdrP.text RdrOk.text fun z2 h2 => (RdrP.bind (rPiece_okv.lst rPiece_rok) rPiece_rok.lst fun z3 h3 => (RdrP.bind RdrP.int RdrOk.int fun z4 h4 => (RdrP.pure ⟨h0, h1, h2, h3, h4⟩))))))
theorem rConv_len : RdrLen rConv 0 (fun x => (wConvP x).length) := (RdrLen.bind RdrLen.text (fun _ => (RdrOk.text).bind fun _ => (RdrOk.text).bind fun _ => (rPiece_rok.lst).bind fun _ => (RdrOk.int).bind fun _ => RdrOk.pure _) fun z0 => (RdrLen.bind RdrLen.text (fun _ => (RdrOk.text).bind fun _ => (rPiece_rok.lst).bind fun _ => (RdrOk.int).bind fun _ => RdrOk.pure _) fun z1 => (RdrLen.bind RdrLen.text (fun _ => (rPiece_rok.lst).bind fun _ => (RdrOk.int).bind fun _ => RdrOk.pure _) fun z2 => (RdrLen.bind (rPiece_len.lst rPiece_rok) (fun _ => (RdrOk.int).bind fun _ => RdrOk.pure _) fun z3 => (RdrLen.bind RdrLen.int (fun _ => RdrOk.pure _) fun z4 => (RdrLen.pure (by simp only [wConvP, List.length_append]; omega)))))))
theorem rMark_okv : RdrP rMark MarkD.Ok := (RdrP.bind RdrP.text RdrOk.text fun z0 h0 => (RdrP.bind RdrP.int RdrOk.int fun z1 h1 => (RdrP.bind RdrP.int RdrOk.int fun z2 h2 => (RdrP.bind RdrP.int RdrOk.int fun z3 h3 => (RdrP.pure ⟨trivial, h0, h1, h2, h3⟩)))))
theorem rMark_len : RdrLen rMark 0 (fun x => (wMark x).length) := (RdrLen.bind RdrLen.text (fun _ => (RdrOk.int).bind fun _ => (RdrOk.int).bind fun _ => (RdrOk.int).bind fun _ => RdrOk.pure _) fun z0 => (RdrLen.bind RdrLen.int (fun _ => (RdrOk.int).bind fun _ => (RdrOk.int).bind fun _ => RdrOk.pure _) fun z1 => (RdrLen.bind RdrLen.int (fun _ => (RdrOk.int).bind fun _ => RdrOk.pure _) fun z2 => (RdrLen.bind RdrLen.int (fun _ => RdrOk.pure _) fun z3 => (RdrLen.pure (by simp only [wMark, List.length_append]; omega))))))
theorem rLine_okv : RdrP rLine LineD.Ok := (RdrP.bind RdrP.int RdrOk.int fun z0 h0 => (RdrP.bind RdrP.int RdrOk.int fun z1 h1 => (RdrP.bind RdrP.text RdrOk.text fun z2 h2 => (RdrP.bind RdrP.int RdrOk.int fun z3 h3 => (RdrP.pure ⟨trivial, h0, h1, h2, h3⟩)))))
theorem rLine_len : RdrLen rLine 0 (fun x => (wLine x).length) := (RdrLen.bind RdrLen.int (fun _ => (RdrOk.int).bind fun _ => (RdrOk.text).bind fun _ => (RdrOk.int).bind fun _ => RdrOk.pure _) fun z0 => (RdrLen.bind RdrLen.int (fun _ => (RdrOk.text).bind fun _ => (RdrOk.int).bind fun _ => RdrOk.pure _) fun z1 => (RdrLen.bind RdrLen.text (fun _ => (RdrOk.int).bind fun _ => RdrOk.pure _) fun z2 => (RdrLen.bind RdrLen.int (fun _ => RdrOk.pure _) fun z3 => (RdrLen.pure (by simp only [wLine, List.length_append]; omega))))))
theorem rSpan_okv : RdrP rSpan SpanD.Ok := (RdrP.bind RdrP.int RdrOk.int fun z0 h0 => (RdrP.bind RdrP.int RdrOk.int fun z1 h1 => (RdrP.pure ⟨trivial, h0, h1⟩)))
theorem rSpan_len : RdrLen rSpan 0 (fun x => (wSpan x).length) := (RdrLen.bind RdrLen.int (fun _ => (RdrOk.int).bind fun _ => RdrOk.pure _) fun z0 => (RdrLen.bind RdrLen.int (fun _ => RdrOk.pure _) fun z1 => (RdrLen.pure (by simp only [wSpan, List.length_append]; omega))))
theorem rInline_okv : RdrP rInline InlineD.Ok := (RdrP.bind RdrP.int RdrOk.int fun z0 h0 => (RdrP.bind RdrP.int RdrOk.int fun z1 h1 => (RdrP.bind RdrP.int RdrOk.int fun z2 h2 => (RdrP.bind RdrP.text RdrOk.text fun z3 h3 => (RdrP.bind RdrP.text RdrOk.text fun z4 h4 => (RdrP.bind RdrP.int RdrOk.int fun z5 h5 => (RdrP.pure ⟨trivial, h0, h1, h2, h3, h4, h5⟩)))))))
theorem rInline_len : RdrLen rInline 0 (fun x => (wInline x).length) := (RdrLen.bind RdrLen.int (fun _ => (RdrOk.int).bind fun _ => (RdrOk.int).bind fun _ => (RdrOk.text).bind fun _ => (RdrOk.text).bind fun _ => (RdrOk.int).bind fun _ => RdrOk.pure _) fun z0 => (RdrLen.bind RdrLen.int (fun _ => (RdrOk.int).bind fun _ => (RdrOk.text).bind fun _ => (RdrOk.text).bind fun _ => (RdrOk.int).bind fun _ => RdrOk.pure _) fun z1 => (RdrLen.bind RdrLen.int (fun _ => (RdrOk.text).bind fun _ => (RdrOk.text).bind fun _ => (RdrOk.int).bind fun _ => RdrOk.pure _) fun z2 => (RdrLen.bind RdrLen.text (fun _ => (RdrOk.text).bind fun _ => (RdrOk.int).bind fun _ => RdrOk.pure _) fun z3 => (RdrLen.bind RdrLen.text (fun _ => (RdrOk.int).bind fun _ => RdrOk.pure _) fun z4 => (RdrLen.bind RdrLen.int (fun _ => RdrOk.pure _) fun z5 => (RdrLen.pure (by simp only [wInline, List.length_append]; omega))))))))
theorem rVarI_okv : RdrP rVarI VarID.Ok := (RdrP.bind RdrP.int RdrOk.int fun z0 h0 => (RdrP.bind RdrP.int RdrOk.int fun z1 h1 => (RdrP.bind RdrP.int RdrOk.int fun z2 h2 => (RdrP.bind RdrP.text RdrOk.text fun z3 h3 => (RdrP.bind RdrP.int RdrOk.int fun z4 h4 => (RdrP.bind RdrP.int RdrOk.int fun z5 h5 => (RdrP.pure ⟨trivial, h0, h1, h2, h3, h4, h5⟩)))))))
theorem rVarI_len : RdrLen rVarI 0 (fun x => (wVarI x).length) := (RdrLen.bind RdrLen.int (fun _ => (RdrOk.int).bind fun _ => (RdrOk.int).bind fun _ => (RdrOk.text).bind fun _ => (RdrOk.int).bind fun _ => (RdrOk.int).bind fun _ => RdrOk.pure _) fun z0 => (RdrLen.bind RdrLen.int (fun _ => (RdrOk.int).bind fun _ => (RdrOk.text).bind fun _ => (RdrOk.int).bind fun _ => (RdrOk.int).bind fun _ => RdrOk.pure _) fun z1 => (RdrLen.bind RdrLen.int (fun _ => (RdrOk.text).bind fun _ => (RdrOk.int).bind fun _ => (RdrOk.int).bind fun _ => RdrOk.pure _) fun z2 => (RdrLen.bind RdrLen.text (fun _ => (RdrOk.int).bind fun _ => (RdrOk.int).bind fun _ => RdrOk.pure _) fun z3 => (RdrLen.bind RdrLen.int (fun _ => (RdrOk.int).bind fun _ => RdrOk.pure _) fun z4 => (RdrLen.bind RdrLen.int (fun _ => RdrOk.pure _) fun z5 => (RdrLen.pure (by simp only [wVarI, List.length_append]; omega))))))))
theorem rDepth_okv : RdrP rDepth DepthD.Ok := (RdrP.bind RdrP.int RdrOk.int fun z0 h0 => (RdrP.bind RdrP.int RdrOk.int fun z1 h1 => (RdrP.bind RdrP.int RdrOk.int fun z2 h2 => (RdrP.bind RdrP.int RdrOk.int fun z3 h3 => (RdrP.pure ⟨trivial, h0, h1, h2, h3⟩)))))
theorem rDepth_len : RdrLen rDepth 0 (fun x => (wDepth x).length) := (RdrLen.bind RdrLen.int (fun _ => (RdrOk.int).bind fun _ => (RdrOk.int).bind fun _ => (RdrOk.int).bind fun _ => RdrOk.pure _) fun z0 => (RdrLen.bind RdrLen.int (fun _ => (RdrOk.int).bind fun _ => (RdrOk.int).bind fun _ => RdrOk.pure _) fun z1 => (RdrLen.bind RdrLen.int (fun _ => (RdrOk.int).bind fun _ => RdrOk.pure _) fun z2 => (RdrLen.bind RdrLen.int (fun _ => RdrOk.pure _) fun z3 => (RdrLen.pure (by simp only [wDepth, List.length_append]; omega))))))
structure InfoP.Ok (x : InfoP) : Prop where
  i19 : ∀ y ∈ x.i19, y.Ok
  i20 : ∀ y ∈ x.i20, y.Ok
  i21 : ∀ y ∈ x.i21, y.Ok
  i22 : ∀ y ∈ x.i22, y.Ok
  i23 : ∀ y ∈ x.i23, y.Ok
  i24 : ∀ y ∈ x.i24, y.Ok
theorem rInfo_okv : RdrP rInfo InfoP.Ok := (RdrP.bind (rMark_okv.lst rMark_rok) rMark_rok.lst fun z19 h19 => (RdrP.bind (rLine_okv.lst rLine_rok) rLine_rok.lst fun z20 h20 => (RdrP.bind (rSpan_okv.lst rSpan_rok) rSpan_rok.lst fun z21 h21 => (RdrP.bind (rInline_okv.lst rInline_rok) rInline_rok.lst fun z22 h22 => (RdrP.bind (rVarI_okv.lst rVarI_rok) rVarI_rok.lst fun z23 h23 => (RdrP.bind (rDepth_okv.lst rDepth_rok) rDepth_rok.lst fun z24 h24 => (RdrP.pure ⟨h19, h20, h21, h22, h23, h24⟩)))))))
structure ImageP.Ok (x : ImageP) : Prop where
  i0 : x.i0.length ≤ maxLen
  i2 : I64 x.i2
  i3 : I64 x.i3
  i4 : I64 x.i4
  i5 : x.i5.length ≤ maxLen
  i6 : x.i6.length ≤ maxLen
  i7 : I64 x.i7
  i8 : ∀ y ∈ x.i8, y.Ok
  i9 : ∀ y ∈ x.i9, y.Ok
  i10 : ∀ y ∈ x.i10, y.Ok
  i11 : ∀ y ∈ x.i11, y.Ok
  i12 : ∀ y ∈ x.i12, y.Ok
  i13 : ∀ y ∈ x.i13, y.Ok
  i14 : ∀ y ∈ x.i14, y.Ok
  i15 : ∀ y ∈ x.i15, y.Ok
  i16 : I64 x.i16
  i17 : ∀ y ∈ x.i17, y.Ok
  i18 : ∀ y ∈ x.i18, y.Ok
  i19 : ∀ y ∈ x.i19, y.Ok
  i20 : ∀ y ∈ x.i20, y.Ok
  i21 : ∀ y ∈ x.i21, y.Ok
  i22 : ∀ y ∈ x.i22, y.Ok
  i23 : ∀ y ∈ x.i23, y.Ok
  i24 : ∀ y ∈ x.i24, y.Ok
  i25 : ∀ y ∈ x.i25, y.Ok
theorem rImage_okv : RdrP rImage ImageP.Ok := (RdrP.bind RdrP.text RdrOk.text fun z0 h0 => (RdrP.bind RdrP.int RdrOk.int fun z1 h1 => (RdrP.bind RdrP.int RdrOk.int fun z2 h2 => (RdrP.bind RdrP.int RdrOk.int fun z3 h3 => (RdrP.bind RdrP.int RdrOk.int fun z4 h4 => (RdrP.bind RdrP.text RdrOk.text fun z5 h5 => (RdrP.bind RdrP.text RdrOk.text fun z6 h6 => (RdrP.bind RdrP.int RdrOk.int fun z7 h7 => (RdrP.bind (rPlaced_okv.lst rPlaced_rok) rPlaced_rok.lst fun z8 h8 => (RdrP.bind (rExport_okv.lst rExport_rok) rExport_rok.lst fun z9 h9 => (RdrP.bind (rImport_okv.lst rImport_rok) rImport_rok.lst fun z10 h10 => (RdrP.bind (rInt__okv.lst rInt__rok) rInt__rok.lst fun z11 h11 => (RdrP.bind (rInt__okv.lst rInt__rok) rInt__rok.lst fun z12 h12 => (RdrP.bind (rDyn_okv.lst rDyn_rok) rDyn_rok.lst fun z13 h13 => (RdrP.bind (rInt__okv.lst rInt__rok) rInt__rok.lst fun z14 h14 => (RdrP.bind (rInt__okv.lst rInt__rok) rInt__rok.lst fun z15 h15 => (RdrP.bind RdrP.int RdrOk.int fun z16 h16 => (RdrP.bind (rStr_okv.lst rStr_rok) rStr_rok.lst fun z17 h17 => (RdrP.bind (rVerDef_okv.lst rVerDef_rok) rVerDef_rok.lst fun z18 h18 => (RdrP.bind rInfo_okv rInfo_rok fun zi hi => (RdrP.bind (rConv_okv.lst rConv_rok) rConv_rok.lst fun z25 h25 => (RdrP.pure ⟨h0, h2, h3, h4, h5, h6, h7, h8, h9, h10, h11, h12, h13, h14, h15, h16, h17, h18, hi.i19, hi.i20, hi.i21, hi.i22, hi.i23, hi.i24, h25⟩))))))))))))))))))))))
def wInfoP (x : InfoP) : List UInt8 := wList wMark x.i19 ++ wList wLine x.i20 ++ wList wSpan x.i21 ++ wList wInline x.i22 ++ wList wVarI x.i23 ++ wList wDepth x.i24
theorem rInfo_len : RdrLen rInfo 0 (fun x => (wInfoP x).length) := (RdrLen.bind (rMark_len.lst rMark_rok) (fun _ => (rLine_rok.lst).bind fun _ => (rSpan_rok.lst).bind fun _ => (rInline_rok.lst).bind fun _ => (rVarI_rok.lst).bind fun _ => (rDepth_rok.lst).bind fun _ => RdrOk.pure _) fun z19 => (RdrLen.bind (rLine_len.lst rLine_rok) (fun _ => (rSpan_rok.lst).bind fun _ => (rInline_rok.lst).bind fun _ => (rVarI_rok.lst).bind fun _ => (rDepth_rok.lst).bind fun _ => RdrOk.pure _) fun z20 => (RdrLen.bind (rSpan_len.lst rSpan_rok) (fun _ => (rInline_rok.lst).bind fun _ => (rVarI_rok.lst).bind fun _ => (rDepth_rok.lst).bind fun _ => RdrOk.pure _) fun z21 => (RdrLen.bind (rInline_len.lst rInline_rok) (fun _ => (rVarI_rok.lst).bind fun _ => (rDepth_rok.lst).bind fun _ => RdrOk.pure _) fun z22 => (RdrLen.bind (rVarI_len.lst rVarI_rok) (fun _ => (rDepth_rok.lst).bind fun _ => RdrOk.pure _) fun z23 => (RdrLen.bind (rDepth_len.lst rDepth_rok) (fun _ => RdrOk.pure _) fun z24 => (RdrLen.pure (by simp only [wInfoP, List.length_append]; omega))))))))
theorem img_len (z0 : List UInt8) (z1 : Int) (z2 : Int) (z3 : Int) (z4 : Int) (z5 : List UInt8) (z6 : List UInt8) (z7 : Int) (z8 : List PlacedD) (z9 : List ExportD) (z10 : List ImportD) (z11 : List Int_D) (z12 : List Int_D) (z13 : List DynD) (z14 : List Int_D) (z15 : List Int_D) (z16 : Int) (z17 : List StrD) (z18 : List VerDefP) (zi : InfoP) (z25 : List ConvP) : (wImageP ⟨z0, z1 != 0, z2, z3, z4, z5, z6, z7, z8, z9, z10, z11, z12, z13, z14, z15, z16, z17, z18, zi.i19, zi.i20, zi.i21, zi.i22, zi.i23, zi.i24, z25⟩).length ≤ 0 + (wText z0).length + (wInt z1).length + (wInt z2).length + (wInt z3).length + (wInt z4).length + (wText z5).length + (wText z6).length + (wInt z7).length + (wList wPlaced z8).length + (wList wExport z9).length + (wList wImport z10).length + (wList wInt_ z11).length + (wList wInt_ z12).length + (wList wDyn z13).length + (wList wInt_ z14).length + (wList wInt_ z15).length + (wInt z16).length + (wList wStr z17).length + (wList wVerDefP z18).length + (wInfoP zi).length + (wList wConvP z25).length := by
  have b1 := boolI_len z1
  show (wText z0 ++ wInt (boolI (z1 != 0)) ++ wInt z2 ++ wInt z3 ++ wInt z4 ++ wText z5 ++ wText z6 ++ wInt z7 ++ wList wPlaced z8 ++ wList wExport z9 ++ wList wImport z10 ++ wList wInt_ z11 ++ wList wInt_ z12 ++ wList wDyn z13 ++ wList wInt_ z14 ++ wList wInt_ z15 ++ wInt z16 ++ wList wStr z17 ++ wList wVerDefP z18 ++ (wList wMark zi.i19 ++ wList wLine zi.i20 ++ wList wSpan zi.i21 ++ wList wInline zi.i22 ++ wList wVarI zi.i23 ++ wList wDepth zi.i24) ++ wList wConvP z25).length ≤ _
  rw [show wList wMark zi.i19 ++ wList wLine zi.i20 ++ wList wSpan zi.i21 ++ wList wInline zi.i22 ++ wList wVarI zi.i23 ++ wList wDepth zi.i24 = wInfoP zi from rfl]
  simp only [List.length_append]
  generalize wInfoP zi = inf
  generalize wInt (boolI (z1 != 0)) = bb at *
  omega
set_option maxHeartbeats 1000000 in
theorem rImage_len : RdrLen rImage 0 (fun x => (wImageP x).length) := (RdrLen.bind RdrLen.text (fun _ => (RdrOk.int).bind fun _ => (RdrOk.int).bind fun _ => (RdrOk.int).bind fun _ => (RdrOk.int).bind fun _ => (RdrOk.text).bind fun _ => (RdrOk.text).bind fun _ => (RdrOk.int).bind fun _ => (rPlaced_rok.lst).bind fun _ => (rExport_rok.lst).bind fun _ => (rImport_rok.lst).bind fun _ => (rInt__rok.lst).bind fun _ => (rInt__rok.lst).bind fun _ => (rDyn_rok.lst).bind fun _ => (rInt__rok.lst).bind fun _ => (rInt__rok.lst).bind fun _ => (RdrOk.int).bind fun _ => (rStr_rok.lst).bind fun _ => (rVerDef_rok.lst).bind fun _ => (rInfo_rok).bind fun _ => (rConv_rok.lst).bind fun _ => RdrOk.pure _) fun z0 => (RdrLen.bind RdrLen.int (fun _ => (RdrOk.int).bind fun _ => (RdrOk.int).bind fun _ => (RdrOk.int).bind fun _ => (RdrOk.text).bind fun _ => (RdrOk.text).bind fun _ => (RdrOk.int).bind fun _ => (rPlaced_rok.lst).bind fun _ => (rExport_rok.lst).bind fun _ => (rImport_rok.lst).bind fun _ => (rInt__rok.lst).bind fun _ => (rInt__rok.lst).bind fun _ => (rDyn_rok.lst).bind fun _ => (rInt__rok.lst).bind fun _ => (rInt__rok.lst).bind fun _ => (RdrOk.int).bind fun _ => (rStr_rok.lst).bind fun _ => (rVerDef_rok.lst).bind fun _ => (rInfo_rok).bind fun _ => (rConv_rok.lst).bind fun _ => RdrOk.pure _) fun z1 => (RdrLen.bind RdrLen.int (fun _ => (RdrOk.int).bind fun _ => (RdrOk.int).bind fun _ => (RdrOk.text).bind fun _ => (RdrOk.text).bind fun _ => (RdrOk.int).bind fun _ => (rPlaced_rok.lst).bind fun _ => (rExport_rok.lst).bind fun _ => (rImport_rok.lst).bind fun _ => (rInt__rok.lst).bind fun _ => (rInt__rok.lst).bind fun _ => (rDyn_rok.lst).bind fun _ => (rInt__rok.lst).bind fun _ => (rInt__rok.lst).bind fun _ => (RdrOk.int).bind fun _ => (rStr_rok.lst).bind fun _ => (rVerDef_rok.lst).bind fun _ => (rInfo_rok).bind fun _ => (rConv_rok.lst).bind fun _ => RdrOk.pure _) fun z2 => (RdrLen.bind RdrLen.int (fun _ => (RdrOk.int).bind fun _ => (RdrOk.text).bind fun _ => (RdrOk.text).bind fun _ => (RdrOk.int).bind fun _ => (rPlaced_rok.lst).bind fun _ => (rExport_rok.lst).bind fun _ => (rImport_rok.lst).bind fun _ => (rInt__rok.lst).bind fun _ => (rInt__rok.lst).bind fun _ => (rDyn_rok.lst).bind fun _ => (rInt__rok.lst).bind fun _ => (rInt__rok.lst).bind fun _ => (RdrOk.int).bind fun _ => (rStr_rok.lst).bind fun _ => (rVerDef_rok.lst).bind fun _ => (rInfo_rok).bind fun _ => (rConv_rok.lst).bind fun _ => RdrOk.pure _) fun z3 => (RdrLen.bind RdrLen.int (fun _ => (RdrOk.text).bind fun _ => (RdrOk.text).bind fun _ => (RdrOk.int).bind fun _ => (rPlaced_rok.lst).bind fun _ => (rExport_rok.lst).bind fun _ => (rImport_rok.lst).bind fun _ => (rInt__rok.lst).bind fun _ => (rInt__rok.lst).bind fun _ => (rDyn_rok.lst).bind fun _ => (rInt__rok.lst).bind fun _ => (rInt__rok.lst).bind fun _ => (RdrOk.int).bind fun _ => (rStr_rok.lst).bind fun _ => (rVerDef_rok.lst).bind fun _ => (rInfo_rok).bind fun _ => (rConv_rok.lst).bind fun _ => RdrOk.pure _) fun z4 => (RdrLen.bind RdrLen.text (fun _ => (RdrOk.text).bind fun _ => (RdrOk.int).bind fun _ => (rPlaced_rok.lst).bind fun _ => (rExport_rok.lst).bind fun _ => (rImport_rok.lst).bind fun _ => (rInt__rok.lst).bind fun _ => (rInt__rok.lst).bind fun _ => (rDyn_rok.lst).bind fun _ => (rInt__rok.lst).bind fun _ => (rInt__rok.lst).bind fun _ => (RdrOk.int).bind fun _ => (rStr_rok.lst).bind fun _ => (rVerDef_rok.lst).bind fun _ => (rInfo_rok).bind fun _ => (rConv_rok.lst).bind fun _ => RdrOk.pure _) fun z5 => (RdrLen.bind RdrLen.text (fun _ => (RdrOk.int).bind fun _ => (rPlaced_rok.lst).bind fun _ => (rExport_rok.lst).bind fun _ => (rImport_rok.lst).bind fun _ => (rInt__rok.lst).bind fun _ => (rInt__rok.lst).bind fun _ => (rDyn_rok.lst).bind fun _ => (rInt__rok.lst).bind fun _ => (rInt__rok.lst).bind fun _ => (RdrOk.int).bind fun _ => (rStr_rok.lst).bind fun _ => (rVerDef_rok.lst).bind fun _ => (rInfo_rok).bind fun _ => (rConv_rok.lst).bind fun _ => RdrOk.pure _) fun z6 => (RdrLen.bind RdrLen.int (fun _ => (rPlaced_rok.lst).bind fun _ => (rExport_rok.lst).bind fun _ => (rImport_rok.lst).bind fun _ => (rInt__rok.lst).bind fun _ => (rInt__rok.lst).bind fun _ => (rDyn_rok.lst).bind fun _ => (rInt__rok.lst).bind fun _ => (rInt__rok.lst).bind fun _ => (RdrOk.int).bind fun _ => (rStr_rok.lst).bind fun _ => (rVerDef_rok.lst).bind fun _ => (rInfo_rok).bind fun _ => (rConv_rok.lst).bind fun _ => RdrOk.pure _) fun z7 => (RdrLen.bind (rPlaced_len.lst rPlaced_rok) (fun _ => (rExport_rok.lst).bind fun _ => (rImport_rok.lst).bind fun _ => (rInt__rok.lst).bind fun _ => (rInt__rok.lst).bind fun _ => (rDyn_rok.lst).bind fun _ => (rInt__rok.lst).bind fun _ => (rInt__rok.lst).bind fun _ => (RdrOk.int).bind fun _ => (rStr_rok.lst).bind fun _ => (rVerDef_rok.lst).bind fun _ => (rInfo_rok).bind fun _ => (rConv_rok.lst).bind fun _ => RdrOk.pure _) fun z8 => (RdrLen.bind (rExport_len.lst rExport_rok) (fun _ => (rImport_rok.lst).bind fun _ => (rInt__rok.lst).bind fun _ => (rInt__rok.lst).bind fun _ => (rDyn_rok.lst).bind fun _ => (rInt__rok.lst).bind fun _ => (rInt__rok.lst).bind fun _ => (RdrOk.int).bind fun _ => (rStr_rok.lst).bind fun _ => (rVerDef_rok.lst).bind fun _ => (rInfo_rok).bind fun _ => (rConv_rok.lst).bind fun _ => RdrOk.pure _) fun z9 => (RdrLen.bind (rImport_len.lst rImport_rok) (fun _ => (rInt__rok.lst).bind fun _ => (rInt__rok.lst).bind fun _ => (rDyn_rok.lst).bind fun _ => (rInt__rok.lst).bind fun _ => (rInt__rok.lst).bind fun _ => (RdrOk.int).bind fun _ => (rStr_rok.lst).bind fun _ => (rVerDef_rok.lst).bind fun _ => (rInfo_rok).bind fun _ => (rConv_rok.lst).bind fun _ => RdrOk.pure _) fun z10 => (RdrLen.bind (rInt__len.lst rInt__rok) (fun _ => (rInt__rok.lst).bind fun _ => (rDyn_rok.lst).bind fun _ => (rInt__rok.lst).bind fun _ => (rInt__rok.lst).bind fun _ => (RdrOk.int).bind fun _ => (rStr_rok.lst).bind fun _ => (rVerDef_rok.lst).bind fun _ => (rInfo_rok).bind fun _ => (rConv_rok.lst).bind fun _ => RdrOk.pure _) fun z11 => (RdrLen.bind (rInt__len.lst rInt__rok) (fun _ => (rDyn_rok.lst).bind fun _ => (rInt__rok.lst).bind fun _ => (rInt__rok.lst).bind fun _ => (RdrOk.int).bind fun _ => (rStr_rok.lst).bind fun _ => (rVerDef_rok.lst).bind fun _ => (rInfo_rok).bind fun _ => (rConv_rok.lst).bind fun _ => RdrOk.pure _) fun z12 => (RdrLen.bind (rDyn_len.lst rDyn_rok) (fun _ => (rInt__rok.lst).bind fun _ => (rInt__rok.lst).bind fun _ => (RdrOk.int).bind fun _ => (rStr_rok.lst).bind fun _ => (rVerDef_rok.lst).bind fun _ => (rInfo_rok).bind fun _ => (rConv_rok.lst).bind fun _ => RdrOk.pure _) fun z13 => (RdrLen.bind (rInt__len.lst rInt__rok) (fun _ => (rInt__rok.lst).bind fun _ => (RdrOk.int).bind fun _ => (rStr_rok.lst).bind fun _ => (rVerDef_rok.lst).bind fun _ => (rInfo_rok).bind fun _ => (rConv_rok.lst).bind fun _ => RdrOk.pure _) fun z14 => (RdrLen.bind (rInt__len.lst rInt__rok) (fun _ => (RdrOk.int).bind fun _ => (rStr_rok.lst).bind fun _ => (rVerDef_rok.lst).bind fun _ => (rInfo_rok).bind fun _ => (rConv_rok.lst).bind fun _ => RdrOk.pure _) fun z15 => (RdrLen.bind RdrLen.int (fun _ => (rStr_rok.lst).bind fun _ => (rVerDef_rok.lst).bind fun _ => (rInfo_rok).bind fun _ => (rConv_rok.lst).bind fun _ => RdrOk.pure _) fun z16 => (RdrLen.bind (rStr_len.lst rStr_rok) (fun _ => (rVerDef_rok.lst).bind fun _ => (rInfo_rok).bind fun _ => (rConv_rok.lst).bind fun _ => RdrOk.pure _) fun z17 => (RdrLen.bind (rVerDef_len.lst rVerDef_rok) (fun _ => (rInfo_rok).bind fun _ => (rConv_rok.lst).bind fun _ => RdrOk.pure _) fun z18 => (RdrLen.bind rInfo_len (fun _ => (rConv_rok.lst).bind fun _ => RdrOk.pure _) fun zi => (RdrLen.bind (rConv_len.lst rConv_rok) (fun _ => RdrOk.pure _) fun z25 => (RdrLen.pure (img_len z0 z1 z2 z3 z4 z5 z6 z7 z8 z9 z10 z11 z12 z13 z14 z15 z16 z17 z18 zi z25)))))))))))))))))))))))
theorem ImageD.ok_of_pl {x : ImageD} (h : x.pl.Ok) : x.Ok := by
  refine ⟨h.i0, h.i2, h.i3, h.i4, h.i5, h.i6, h.i7, ?_, ?_, ?_, ?_, ?_, ?_, ?_, ?_, h.i16, ?_, ?_, ?_, ?_, ?_, ?_, ?_, ?_, ?_⟩
  · exact fun y hy => h.i8 y (List.mem_map.2 ⟨y, hy, rfl⟩)
  · exact fun y hy => h.i9 y (List.mem_map.2 ⟨y, hy, rfl⟩)
  · exact fun y hy => h.i10 y (List.mem_map.2 ⟨y, hy, rfl⟩)
  · exact fun y hy => h.i11 y (List.mem_map.2 ⟨y, hy, rfl⟩)
  · exact fun y hy => h.i12 y (List.mem_map.2 ⟨y, hy, rfl⟩)
  · exact fun y hy => h.i13 y (List.mem_map.2 ⟨y, hy, rfl⟩)
  · exact fun y hy => h.i14 y (List.mem_map.2 ⟨y, hy, rfl⟩)
  · exact fun y hy => h.i15 y (List.mem_map.2 ⟨y, hy, rfl⟩)
  · exact fun y hy => h.i17 y (List.mem_map.2 ⟨y, hy, rfl⟩)
  · exact fun y hy => have h2 := h.i18 y.pl (List.mem_map_of_mem hy); ⟨trivial, h2.f0, h2.f1⟩
  · exact fun y hy => h.i19 y (List.mem_map.2 ⟨y, hy, rfl⟩)
  · exact fun y hy => h.i20 y (List.mem_map.2 ⟨y, hy, rfl⟩)
  · exact fun y hy => h.i21 y (List.mem_map.2 ⟨y, hy, rfl⟩)
  · exact fun y hy => h.i22 y (List.mem_map.2 ⟨y, hy, rfl⟩)
  · exact fun y hy => h.i23 y (List.mem_map.2 ⟨y, hy, rfl⟩)
  · exact fun y hy => h.i24 y (List.mem_map.2 ⟨y, hy, rfl⟩)
  · exact fun y hy => have h2 := h.i25 y.pl (List.mem_map_of_mem hy); ⟨trivial, h2.f0, h2.f1, h2.f2, h2.f3, h2.f4⟩

end Go.Proofs.YtefgajipakjpeaaDoor
