/- The driver's laws: they look for their premises themselves. -/
import Derived.Test.YtophpbihcfdkcaaTT
namespace Go.Proofs.Ytophpbihcfdkcaa
open Go.RowKit P
set_option linter.unusedSimpArgs false
set_option linter.unusedVariables false
section
variable {Q : Exit → AS → Prop} {ks : List It} {σ σ' σ'' : AS} {l : List Oper} {k : Nat} {o : Oper} {rest : List Oper} {f : FuncId} {xs : Array Operand} {ats : Array TypeId} {ty : TypeId} {pos : String} {af : Array Edge} {g : Option (Nat × Bool)} {d : Nat} {us : List AV} {ρs : List (Option Root)} {post : AOut → List (Nat × List AV) → Prop}
/-- What an operation yields. -/
theorem opD {u : AV} (h : OpV Try.prog o σ u := by
    (first
        | (apply opk ⟨_, .move _, _, _, _, _⟩; first | exact opv_move rfl rfl | exact opv_const (cst_plain _) (.inl rfl) | fail)
        | (apply opk ⟨_, .assign _, _, _, _, _⟩; first | exact opv_assign rfl rfl | fail)
        | (apply opk ⟨_, .binOp .add _ _ _ _, _, _, _, _⟩; first
          | (refine opv_add64 rfl rfl rfl ?_; (next => (first
            | omega
            | decide
            | (simp only [bsOf_mkB, byteA_length, List.length_append, List.length_cons, List.length_nil, List.length_take, List.length_drop, Int.toNat_natCast]; omega)
            | (simp [bsOf_mkB, byteA_length, List.length_append, List.length_cons, List.length_nil, List.length_take, List.length_drop, Int.toNat_natCast]; omega)
            | (simp [bsOf_mkB, byteA_length, List.length_append, List.length_cons, List.length_nil, List.length_take, List.length_drop, Int.toNat_natCast] <;> omega))))
          | (refine opv_cat rfl rfl ?_; (next => (first
            | omega
            | decide
            | (simp only [bsOf_mkB, byteA_length, List.length_append, List.length_cons, List.length_nil, List.length_take, List.length_drop, Int.toNat_natCast]; omega)
            | (simp [bsOf_mkB, byteA_length, List.length_append, List.length_cons, List.length_nil, List.length_take, List.length_drop, Int.toNat_natCast]; omega)
            | (simp [bsOf_mkB, byteA_length, List.length_append, List.length_cons, List.length_nil, List.length_take, List.length_drop, Int.toNat_natCast] <;> omega))))
          | exact opv_bin rfl rfl rfl
          | fail)
        | (apply opk ⟨_, .binOp .sub _ _ _ _, _, _, _, _⟩; first
          | (refine opv_sub64 rfl rfl rfl ?_; (next => (first
            | omega
            | decide
            | (simp only [bsOf_mkB, byteA_length, List.length_append, List.length_cons, List.length_nil, List.length_take, List.length_drop, Int.toNat_natCast]; omega)
            | (simp [bsOf_mkB, byteA_length, List.length_append, List.length_cons, List.length_nil, List.length_take, List.length_drop, Int.toNat_natCast]; omega)
            | (simp [bsOf_mkB, byteA_length, List.length_append, List.length_cons, List.length_nil, List.length_take, List.length_drop, Int.toNat_natCast] <;> omega))))
          | exact opv_bin rfl rfl rfl
          | fail)
        | (apply opk ⟨_, .binOp .mul _ _ _ _, _, _, _, _⟩; first
          | (refine opv_mul64 rfl rfl rfl ?_; (next => (first
            | omega
            | decide
            | (simp only [bsOf_mkB, byteA_length, List.length_append, List.length_cons, List.length_nil, List.length_take, List.length_drop, Int.toNat_natCast]; omega)
            | (simp [bsOf_mkB, byteA_length, List.length_append, List.length_cons, List.length_nil, List.length_take, List.length_drop, Int.toNat_natCast]; omega)
            | (simp [bsOf_mkB, byteA_length, List.length_append, List.length_cons, List.length_nil, List.length_take, List.length_drop, Int.toNat_natCast] <;> omega))))
          | exact opv_bin rfl rfl rfl
          | fail)
        | (apply opk ⟨_, .binOp .and _ _ _ _, _, _, _, _⟩; first
          | (refine opv_and_mod 2 4 rfl rfl rfl ?_ ?_ ?_ ?_ ?_; (next => (first | exact .inl rfl | exact .inr rfl)); (next => (decide)); (next => (decide)); (next => (decide)); (next => (first
            | omega
            | decide
            | (simp only [bsOf_mkB, byteA_length, List.length_append, List.length_cons, List.length_nil, List.length_take, List.length_drop, Int.toNat_natCast]; omega)
            | (simp [bsOf_mkB, byteA_length, List.length_append, List.length_cons, List.length_nil, List.length_take, List.length_drop, Int.toNat_natCast]; omega)
            | (simp [bsOf_mkB, byteA_length, List.length_append, List.length_cons, List.length_nil, List.length_take, List.length_drop, Int.toNat_natCast] <;> omega))))
          | (refine opv_and_mod 3 8 rfl rfl rfl ?_ ?_ ?_ ?_ ?_; (next => (first | exact .inl rfl | exact .inr rfl)); (next => (decide)); (next => (decide)); (next => (decide)); (next => (first
            | omega
            | decide
            | (simp only [bsOf_mkB, byteA_length, List.length_append, List.length_cons, List.length_nil, List.length_take, List.length_drop, Int.toNat_natCast]; omega)
            | (simp [bsOf_mkB, byteA_length, List.length_append, List.length_cons, List.length_nil, List.length_take, List.length_drop, Int.toNat_natCast]; omega)
            | (simp [bsOf_mkB, byteA_length, List.length_append, List.length_cons, List.length_nil, List.length_take, List.length_drop, Int.toNat_natCast] <;> omega))))
          | (refine opv_and_mod 7 128 rfl rfl rfl ?_ ?_ ?_ ?_ ?_; (next => (first | exact .inl rfl | exact .inr rfl)); (next => (decide)); (next => (decide)); (next => (decide)); (next => (first
            | omega
            | decide
            | (simp only [bsOf_mkB, byteA_length, List.length_append, List.length_cons, List.length_nil, List.length_take, List.length_drop, Int.toNat_natCast]; omega)
            | (simp [bsOf_mkB, byteA_length, List.length_append, List.length_cons, List.length_nil, List.length_take, List.length_drop, Int.toNat_natCast]; omega)
            | (simp [bsOf_mkB, byteA_length, List.length_append, List.length_cons, List.length_nil, List.length_take, List.length_drop, Int.toNat_natCast] <;> omega))))
          | exact opv_bin rfl rfl rfl
          | fail)
        | (apply opk ⟨_, .binOp .or _ _ _ _, _, _, _, _⟩; first | exact opv_bin rfl rfl rfl | fail)
        | (apply opk ⟨_, .binOp .xor _ _ _ _, _, _, _, _⟩; first | exact opv_bin rfl rfl rfl | fail)
        | (apply opk ⟨_, .binOp .shl _ _ _ _, _, _, _, _⟩; first
          | (refine opv_shl_mul 4 rfl rfl rfl ?_ ?_ ?_; (next => (decide)); (next => (decide)); (next => (first
            | omega
            | decide
            | (simp only [bsOf_mkB, byteA_length, List.length_append, List.length_cons, List.length_nil, List.length_take, List.length_drop, Int.toNat_natCast]; omega)
            | (simp [bsOf_mkB, byteA_length, List.length_append, List.length_cons, List.length_nil, List.length_take, List.length_drop, Int.toNat_natCast]; omega)
            | (simp [bsOf_mkB, byteA_length, List.length_append, List.length_cons, List.length_nil, List.length_take, List.length_drop, Int.toNat_natCast] <;> omega))))
          | (refine opv_shl_mul 8 rfl rfl rfl ?_ ?_ ?_; (next => (decide)); (next => (decide)); (next => (first
            | omega
            | decide
            | (simp only [bsOf_mkB, byteA_length, List.length_append, List.length_cons, List.length_nil, List.length_take, List.length_drop, Int.toNat_natCast]; omega)
            | (simp [bsOf_mkB, byteA_length, List.length_append, List.length_cons, List.length_nil, List.length_take, List.length_drop, Int.toNat_natCast]; omega)
            | (simp [bsOf_mkB, byteA_length, List.length_append, List.length_cons, List.length_nil, List.length_take, List.length_drop, Int.toNat_natCast] <;> omega))))
          | (refine opv_shl_mul 32 rfl rfl rfl ?_ ?_ ?_; (next => (decide)); (next => (decide)); (next => (first
            | omega
            | decide
            | (simp only [bsOf_mkB, byteA_length, List.length_append, List.length_cons, List.length_nil, List.length_take, List.length_drop, Int.toNat_natCast]; omega)
            | (simp [bsOf_mkB, byteA_length, List.length_append, List.length_cons, List.length_nil, List.length_take, List.length_drop, Int.toNat_natCast]; omega)
            | (simp [bsOf_mkB, byteA_length, List.length_append, List.length_cons, List.length_nil, List.length_take, List.length_drop, Int.toNat_natCast] <;> omega))))
          | (refine opv_shl_mul 256 rfl rfl rfl ?_ ?_ ?_; (next => (decide)); (next => (decide)); (next => (first
            | omega
            | decide
            | (simp only [bsOf_mkB, byteA_length, List.length_append, List.length_cons, List.length_nil, List.length_take, List.length_drop, Int.toNat_natCast]; omega)
            | (simp [bsOf_mkB, byteA_length, List.length_append, List.length_cons, List.length_nil, List.length_take, List.length_drop, Int.toNat_natCast]; omega)
            | (simp [bsOf_mkB, byteA_length, List.length_append, List.length_cons, List.length_nil, List.length_take, List.length_drop, Int.toNat_natCast] <;> omega))))
          | (refine opv_shl_mul 65536 rfl rfl rfl ?_ ?_ ?_; (next => (decide)); (next => (decide)); (next => (first
            | omega
            | decide
            | (simp only [bsOf_mkB, byteA_length, List.length_append, List.length_cons, List.length_nil, List.length_take, List.length_drop, Int.toNat_natCast]; omega)
            | (simp [bsOf_mkB, byteA_length, List.length_append, List.length_cons, List.length_nil, List.length_take, List.length_drop, Int.toNat_natCast]; omega)
            | (simp [bsOf_mkB, byteA_length, List.length_append, List.length_cons, List.length_nil, List.length_take, List.length_drop, Int.toNat_natCast] <;> omega))))
          | (refine opv_shl_mul 16777216 rfl rfl rfl ?_ ?_ ?_; (next => (decide)); (next => (decide)); (next => (first
            | omega
            | decide
            | (simp only [bsOf_mkB, byteA_length, List.length_append, List.length_cons, List.length_nil, List.length_take, List.length_drop, Int.toNat_natCast]; omega)
            | (simp [bsOf_mkB, byteA_length, List.length_append, List.length_cons, List.length_nil, List.length_take, List.length_drop, Int.toNat_natCast]; omega)
            | (simp [bsOf_mkB, byteA_length, List.length_append, List.length_cons, List.length_nil, List.length_take, List.length_drop, Int.toNat_natCast] <;> omega))))
          | (refine opv_shl rfl rfl rfl ?_; (next => (first
            | omega
            | decide
            | (simp only [bsOf_mkB, byteA_length, List.length_append, List.length_cons, List.length_nil, List.length_take, List.length_drop, Int.toNat_natCast]; omega)
            | (simp [bsOf_mkB, byteA_length, List.length_append, List.length_cons, List.length_nil, List.length_take, List.length_drop, Int.toNat_natCast]; omega)
            | (simp [bsOf_mkB, byteA_length, List.length_append, List.length_cons, List.length_nil, List.length_take, List.length_drop, Int.toNat_natCast] <;> omega))))
          | fail)
        | (apply opk ⟨_, .binOp .shr _ _ _ _, _, _, _, _⟩; first
          | (refine opv_shr_div 4 rfl rfl rfl ?_ ?_ ?_; (next => (decide)); (next => (decide)); (next => (decide)))
          | (refine opv_shr_div 8 rfl rfl rfl ?_ ?_ ?_; (next => (decide)); (next => (decide)); (next => (decide)))
          | (refine opv_shr_div 128 rfl rfl rfl ?_ ?_ ?_; (next => (decide)); (next => (decide)); (next => (decide)))
          | (refine opv_shr_div 256 rfl rfl rfl ?_ ?_ ?_; (next => (decide)); (next => (decide)); (next => (decide)))
          | (refine opv_shr_div 65536 rfl rfl rfl ?_ ?_ ?_; (next => (decide)); (next => (decide)); (next => (decide)))
          | (refine opv_shr_div 16777216 rfl rfl rfl ?_ ?_ ?_; (next => (decide)); (next => (decide)); (next => (decide)))
          | (refine opv_shr rfl rfl rfl ?_; (next => (first
            | omega
            | decide
            | (simp only [bsOf_mkB, byteA_length, List.length_append, List.length_cons, List.length_nil, List.length_take, List.length_drop, Int.toNat_natCast]; omega)
            | (simp [bsOf_mkB, byteA_length, List.length_append, List.length_cons, List.length_nil, List.length_take, List.length_drop, Int.toNat_natCast]; omega)
            | (simp [bsOf_mkB, byteA_length, List.length_append, List.length_cons, List.length_nil, List.length_take, List.length_drop, Int.toNat_natCast] <;> omega))))
          | fail)
        | (apply opk ⟨_, .binOp .quo _ _ _ _, _, _, _, _⟩; first
          | (refine opv_quo_nn rfl rfl rfl ?_ ?_; (next => (first | exact .inl rfl | exact .inr rfl)); (next => (first
            | omega
            | decide
            | (simp only [bsOf_mkB, byteA_length, List.length_append, List.length_cons, List.length_nil, List.length_take, List.length_drop, Int.toNat_natCast]; omega)
            | (simp [bsOf_mkB, byteA_length, List.length_append, List.length_cons, List.length_nil, List.length_take, List.length_drop, Int.toNat_natCast]; omega)
            | (simp [bsOf_mkB, byteA_length, List.length_append, List.length_cons, List.length_nil, List.length_take, List.length_drop, Int.toNat_natCast] <;> omega))))
          | (refine opv_quo_u rfl rfl rfl ?_; (next => (first
            | omega
            | decide
            | (simp only [bsOf_mkB, byteA_length, List.length_append, List.length_cons, List.length_nil, List.length_take, List.length_drop, Int.toNat_natCast]; omega)
            | (simp [bsOf_mkB, byteA_length, List.length_append, List.length_cons, List.length_nil, List.length_take, List.length_drop, Int.toNat_natCast]; omega)
            | (simp [bsOf_mkB, byteA_length, List.length_append, List.length_cons, List.length_nil, List.length_take, List.length_drop, Int.toNat_natCast] <;> omega))))
          | (refine opv_quo rfl rfl rfl ?_; (next => (first
            | omega
            | decide
            | (simp only [bsOf_mkB, byteA_length, List.length_append, List.length_cons, List.length_nil, List.length_take, List.length_drop, Int.toNat_natCast]; omega)
            | (simp [bsOf_mkB, byteA_length, List.length_append, List.length_cons, List.length_nil, List.length_take, List.length_drop, Int.toNat_natCast]; omega)
            | (simp [bsOf_mkB, byteA_length, List.length_append, List.length_cons, List.length_nil, List.length_take, List.length_drop, Int.toNat_natCast] <;> omega))))
          | fail)
        | (apply opk ⟨_, .binOp .rem _ _ _ _, _, _, _, _⟩; first
          | (refine opv_rem_nn rfl rfl rfl ?_; (next => (first
            | omega
            | decide
            | (simp only [bsOf_mkB, byteA_length, List.length_append, List.length_cons, List.length_nil, List.length_take, List.length_drop, Int.toNat_natCast]; omega)
            | (simp [bsOf_mkB, byteA_length, List.length_append, List.length_cons, List.length_nil, List.length_take, List.length_drop, Int.toNat_natCast]; omega)
            | (simp [bsOf_mkB, byteA_length, List.length_append, List.length_cons, List.length_nil, List.length_take, List.length_drop, Int.toNat_natCast] <;> omega))))
          | (refine opv_rem rfl rfl rfl ?_; (next => (first
            | omega
            | decide
            | (simp only [bsOf_mkB, byteA_length, List.length_append, List.length_cons, List.length_nil, List.length_take, List.length_drop, Int.toNat_natCast]; omega)
            | (simp [bsOf_mkB, byteA_length, List.length_append, List.length_cons, List.length_nil, List.length_take, List.length_drop, Int.toNat_natCast]; omega)
            | (simp [bsOf_mkB, byteA_length, List.length_append, List.length_cons, List.length_nil, List.length_take, List.length_drop, Int.toNat_natCast] <;> omega))))
          | fail)
        | (apply opk ⟨_, .binOp .eql _ _ _ _, _, _, _, _⟩; first
          | (refine opv_cmp_t rfl rfl rfl ?_; (next => (first
            | exact rfl
            | (simp only [cmpP]; omega)
            | (simp only [cmpP, bsOf_mkB, byteA_length, List.length_append, List.length_cons, List.length_nil, List.length_take, List.length_drop, Int.toNat_natCast]; omega))))
          | (refine opv_cmp_f rfl rfl rfl ?_; (next => (first
            | exact rfl
            | (simp only [cmpP]; omega)
            | (simp only [cmpP, bsOf_mkB, byteA_length, List.length_append, List.length_cons, List.length_nil, List.length_take, List.length_drop, Int.toNat_natCast]; omega))))
          | exact opv_bin rfl rfl rfl
          | (refine opv_seq_t rfl rfl rfl ?_; (next => (first | rfl | assumption)))
          | (refine opv_seq_f rfl rfl rfl ?_; (next => (first | rfl | assumption)))
          | exact opv_str rfl rfl rfl
          | fail)
        | (apply opk ⟨_, .binOp .neq _ _ _ _, _, _, _, _⟩; first
          | (refine opv_cmp_t rfl rfl rfl ?_; (next => (first
            | exact rfl
            | (simp only [cmpP]; omega)
            | (simp only [cmpP, bsOf_mkB, byteA_length, List.length_append, List.length_cons, List.length_nil, List.length_take, List.length_drop, Int.toNat_natCast]; omega))))
          | (refine opv_cmp_f rfl rfl rfl ?_; (next => (first
            | exact rfl
            | (simp only [cmpP]; omega)
            | (simp only [cmpP, bsOf_mkB, byteA_length, List.length_append, List.length_cons, List.length_nil, List.length_take, List.length_drop, Int.toNat_natCast]; omega))))
          | exact opv_bin rfl rfl rfl
          | (refine opv_sne_t rfl rfl rfl ?_; (next => (first | rfl | assumption)))
          | (refine opv_sne_f rfl rfl rfl ?_; (next => (first | rfl | assumption)))
          | exact opv_str rfl rfl rfl
          | fail)
        | (apply opk ⟨_, .binOp .lss _ _ _ _, _, _, _, _⟩; first
          | (refine opv_cmp_t rfl rfl rfl ?_; (next => (first
            | exact rfl
            | (simp only [cmpP]; omega)
            | (simp only [cmpP, bsOf_mkB, byteA_length, List.length_append, List.length_cons, List.length_nil, List.length_take, List.length_drop, Int.toNat_natCast]; omega))))
          | (refine opv_cmp_f rfl rfl rfl ?_; (next => (first
            | exact rfl
            | (simp only [cmpP]; omega)
            | (simp only [cmpP, bsOf_mkB, byteA_length, List.length_append, List.length_cons, List.length_nil, List.length_take, List.length_drop, Int.toNat_natCast]; omega))))
          | exact opv_bin rfl rfl rfl
          | exact opv_str rfl rfl rfl
          | fail)
        | (apply opk ⟨_, .binOp .leq _ _ _ _, _, _, _, _⟩; first
          | (refine opv_cmp_t rfl rfl rfl ?_; (next => (first
            | exact rfl
            | (simp only [cmpP]; omega)
            | (simp only [cmpP, bsOf_mkB, byteA_length, List.length_append, List.length_cons, List.length_nil, List.length_take, List.length_drop, Int.toNat_natCast]; omega))))
          | (refine opv_cmp_f rfl rfl rfl ?_; (next => (first
            | exact rfl
            | (simp only [cmpP]; omega)
            | (simp only [cmpP, bsOf_mkB, byteA_length, List.length_append, List.length_cons, List.length_nil, List.length_take, List.length_drop, Int.toNat_natCast]; omega))))
          | exact opv_bin rfl rfl rfl
          | exact opv_str rfl rfl rfl
          | fail)
        | (apply opk ⟨_, .binOp .gtr _ _ _ _, _, _, _, _⟩; first
          | (refine opv_cmp_t rfl rfl rfl ?_; (next => (first
            | exact rfl
            | (simp only [cmpP]; omega)
            | (simp only [cmpP, bsOf_mkB, byteA_length, List.length_append, List.length_cons, List.length_nil, List.length_take, List.length_drop, Int.toNat_natCast]; omega))))
          | (refine opv_cmp_f rfl rfl rfl ?_; (next => (first
            | exact rfl
            | (simp only [cmpP]; omega)
            | (simp only [cmpP, bsOf_mkB, byteA_length, List.length_append, List.length_cons, List.length_nil, List.length_take, List.length_drop, Int.toNat_natCast]; omega))))
          | exact opv_bin rfl rfl rfl
          | exact opv_str rfl rfl rfl
          | fail)
        | (apply opk ⟨_, .binOp .geq _ _ _ _, _, _, _, _⟩; first
          | (refine opv_cmp_t rfl rfl rfl ?_; (next => (first
            | exact rfl
            | (simp only [cmpP]; omega)
            | (simp only [cmpP, bsOf_mkB, byteA_length, List.length_append, List.length_cons, List.length_nil, List.length_take, List.length_drop, Int.toNat_natCast]; omega))))
          | (refine opv_cmp_f rfl rfl rfl ?_; (next => (first
            | exact rfl
            | (simp only [cmpP]; omega)
            | (simp only [cmpP, bsOf_mkB, byteA_length, List.length_append, List.length_cons, List.length_nil, List.length_take, List.length_drop, Int.toNat_natCast]; omega))))
          | exact opv_bin rfl rfl rfl
          | exact opv_str rfl rfl rfl
          | fail)
        | (apply opk ⟨_, .unOp _ _ _, _, _, _, _⟩; first | exact opv_not_t rfl rfl | exact opv_not_f rfl rfl | exact opv_not rfl rfl | exact opv_neg rfl rfl | fail)
        | (apply opk ⟨_, .convert _ _ _, _, _, _, _⟩; first
          | (refine opv_conv_byte (T := TT) rfl rfl rfl ?_; (next => (first | exact .inl rfl | exact .inr (.inl rfl) | exact .inr (.inr rfl))))
          | (refine opv_conv64 (T := TT) rfl rfl rfl ?_; (next => (first
            | omega
            | decide
            | (simp only [bsOf_mkB, byteA_length, List.length_append, List.length_cons, List.length_nil, List.length_take, List.length_drop, Int.toNat_natCast]; omega)
            | (simp [bsOf_mkB, byteA_length, List.length_append, List.length_cons, List.length_nil, List.length_take, List.length_drop, Int.toNat_natCast]; omega)
            | (simp [bsOf_mkB, byteA_length, List.length_append, List.length_cons, List.length_nil, List.length_take, List.length_drop, Int.toNat_natCast] <;> omega))))
          | (refine opv_convu64 (T := TT) rfl rfl rfl ?_; (next => (first
            | omega
            | decide
            | (simp only [bsOf_mkB, byteA_length, List.length_append, List.length_cons, List.length_nil, List.length_take, List.length_drop, Int.toNat_natCast]; omega)
            | (simp [bsOf_mkB, byteA_length, List.length_append, List.length_cons, List.length_nil, List.length_take, List.length_drop, Int.toNat_natCast]; omega)
            | (simp [bsOf_mkB, byteA_length, List.length_append, List.length_cons, List.length_nil, List.length_take, List.length_drop, Int.toNat_natCast] <;> omega))))
          | exact opv_conv8 (T := TT) rfl rfl rfl
          | exact opv_conv_int (T := TT) rfl rfl rfl
          | exact opv_conv_str (T := TT) rfl rfl rfl
          | exact opv_bytes_str (T := TT) rfl rfl rfl rfl
          | exact opv_str_bytes (T := TT) rfl rfl rfl rfl
          | fail)
        | (apply opk ⟨_, .call { callee := .builtin .len, args := _, argTypes := _ }, _, _, _, _⟩; first
          | exact opv_len_str (T := TT) rfl rfl rfl
          | exact opv_len_sl (T := TT) rfl rfl rfl
          | exact opv_len_nil (T := TT) rfl rfl rfl
          | fail)
        | (apply opk ⟨_, .call { callee := .builtin .min, args := _, argTypes := _ }, _, _, _, _⟩; first
          | (refine opv_min_l rfl rfl ?_; (next => (first
            | omega
            | decide
            | (simp only [bsOf_mkB, byteA_length, List.length_append, List.length_cons, List.length_nil, List.length_take, List.length_drop, Int.toNat_natCast]; omega)
            | (simp [bsOf_mkB, byteA_length, List.length_append, List.length_cons, List.length_nil, List.length_take, List.length_drop, Int.toNat_natCast]; omega)
            | (simp [bsOf_mkB, byteA_length, List.length_append, List.length_cons, List.length_nil, List.length_take, List.length_drop, Int.toNat_natCast] <;> omega))))
          | (refine opv_min_r rfl rfl ?_; (next => (first
            | omega
            | decide
            | (simp only [bsOf_mkB, byteA_length, List.length_append, List.length_cons, List.length_nil, List.length_take, List.length_drop, Int.toNat_natCast]; omega)
            | (simp [bsOf_mkB, byteA_length, List.length_append, List.length_cons, List.length_nil, List.length_take, List.length_drop, Int.toNat_natCast]; omega)
            | (simp [bsOf_mkB, byteA_length, List.length_append, List.length_cons, List.length_nil, List.length_take, List.length_drop, Int.toNat_natCast] <;> omega))))
          | exact opv_min rfl rfl
          | fail)
        | (apply opk ⟨_, .extract _ _, _, _, _, _⟩; first | exact opv_extract rfl rfl | fail)
        | (apply opk ⟨_, .index _ _ _, _, _, _, _⟩; first
          | (refine opv_index_str (T := TT) rfl rfl rfl ?_ ?_; (next => (first
            | omega
            | decide
            | (simp only [bsOf_mkB, byteA_length, List.length_append, List.length_cons, List.length_nil, List.length_take, List.length_drop, Int.toNat_natCast]; omega)
            | (simp [bsOf_mkB, byteA_length, List.length_append, List.length_cons, List.length_nil, List.length_take, List.length_drop, Int.toNat_natCast]; omega)
            | (simp [bsOf_mkB, byteA_length, List.length_append, List.length_cons, List.length_nil, List.length_take, List.length_drop, Int.toNat_natCast] <;> omega))); (next => (first
            | omega
            | decide
            | (simp only [bsOf_mkB, byteA_length, List.length_append, List.length_cons, List.length_nil, List.length_take, List.length_drop, Int.toNat_natCast]; omega)
            | (simp [bsOf_mkB, byteA_length, List.length_append, List.length_cons, List.length_nil, List.length_take, List.length_drop, Int.toNat_natCast]; omega)
            | (simp [bsOf_mkB, byteA_length, List.length_append, List.length_cons, List.length_nil, List.length_take, List.length_drop, Int.toNat_natCast] <;> omega))))
          | fail)
        | (apply opk ⟨_, .slice _ _ _ _ _, _, _, _, _⟩; first
          | (refine opv_slice_str (T := TT) (k1 := .i64) (k2 := .i64) rfl rfl rfl rfl ?_ ?_ ?_; (next => (first
            | omega
            | decide
            | (simp only [bsOf_mkB, byteA_length, List.length_append, List.length_cons, List.length_nil, List.length_take, List.length_drop, Int.toNat_natCast]; omega)
            | (simp [bsOf_mkB, byteA_length, List.length_append, List.length_cons, List.length_nil, List.length_take, List.length_drop, Int.toNat_natCast]; omega)
            | (simp [bsOf_mkB, byteA_length, List.length_append, List.length_cons, List.length_nil, List.length_take, List.length_drop, Int.toNat_natCast] <;> omega))); (next => (first
            | omega
            | decide
            | (simp only [bsOf_mkB, byteA_length, List.length_append, List.length_cons, List.length_nil, List.length_take, List.length_drop, Int.toNat_natCast]; omega)
            | (simp [bsOf_mkB, byteA_length, List.length_append, List.length_cons, List.length_nil, List.length_take, List.length_drop, Int.toNat_natCast]; omega)
            | (simp [bsOf_mkB, byteA_length, List.length_append, List.length_cons, List.length_nil, List.length_take, List.length_drop, Int.toNat_natCast] <;> omega))); (next => (first
            | omega
            | decide
            | (simp only [bsOf_mkB, byteA_length, List.length_append, List.length_cons, List.length_nil, List.length_take, List.length_drop, Int.toNat_natCast]; omega)
            | (simp [bsOf_mkB, byteA_length, List.length_append, List.length_cons, List.length_nil, List.length_take, List.length_drop, Int.toNat_natCast]; omega)
            | (simp [bsOf_mkB, byteA_length, List.length_append, List.length_cons, List.length_nil, List.length_take, List.length_drop, Int.toNat_natCast] <;> omega))))
          | (refine opv_slice_sl (T := TT) (k1 := .i64) (k2 := .i64) rfl rfl rfl rfl rfl ?_ ?_ ?_; (next => (first
            | omega
            | decide
            | (simp only [bsOf_mkB, byteA_length, List.length_append, List.length_cons, List.length_nil, List.length_take, List.length_drop, Int.toNat_natCast]; omega)
            | (simp [bsOf_mkB, byteA_length, List.length_append, List.length_cons, List.length_nil, List.length_take, List.length_drop, Int.toNat_natCast]; omega)
            | (simp [bsOf_mkB, byteA_length, List.length_append, List.length_cons, List.length_nil, List.length_take, List.length_drop, Int.toNat_natCast] <;> omega))); (next => (first
            | omega
            | decide
            | (simp only [bsOf_mkB, byteA_length, List.length_append, List.length_cons, List.length_nil, List.length_take, List.length_drop, Int.toNat_natCast]; omega)
            | (simp [bsOf_mkB, byteA_length, List.length_append, List.length_cons, List.length_nil, List.length_take, List.length_drop, Int.toNat_natCast]; omega)
            | (simp [bsOf_mkB, byteA_length, List.length_append, List.length_cons, List.length_nil, List.length_take, List.length_drop, Int.toNat_natCast] <;> omega))); (next => (first
            | omega
            | decide
            | (simp only [bsOf_mkB, byteA_length, List.length_append, List.length_cons, List.length_nil, List.length_take, List.length_drop, Int.toNat_natCast]; omega)
            | (simp [bsOf_mkB, byteA_length, List.length_append, List.length_cons, List.length_nil, List.length_take, List.length_drop, Int.toNat_natCast]; omega)
            | (simp [bsOf_mkB, byteA_length, List.length_append, List.length_cons, List.length_nil, List.length_take, List.length_drop, Int.toNat_natCast] <;> omega))))
          | fail)
        | (apply opk ⟨_, .indexAddr _ _ _, _, _, _, _⟩; first
          | (refine opv_indexaddr_byte (T := TT) rfl rfl rfl rfl ?_ ?_; (next => (first
            | omega
            | decide
            | (simp only [bsOf_mkB, byteA_length, List.length_append, List.length_cons, List.length_nil, List.length_take, List.length_drop, Int.toNat_natCast]; omega)
            | (simp [bsOf_mkB, byteA_length, List.length_append, List.length_cons, List.length_nil, List.length_take, List.length_drop, Int.toNat_natCast]; omega)
            | (simp [bsOf_mkB, byteA_length, List.length_append, List.length_cons, List.length_nil, List.length_take, List.length_drop, Int.toNat_natCast] <;> omega))); (next => (first
            | omega
            | decide
            | (simp only [bsOf_mkB, byteA_length, List.length_append, List.length_cons, List.length_nil, List.length_take, List.length_drop, Int.toNat_natCast]; omega)
            | (simp [bsOf_mkB, byteA_length, List.length_append, List.length_cons, List.length_nil, List.length_take, List.length_drop, Int.toNat_natCast]; omega)
            | (simp [bsOf_mkB, byteA_length, List.length_append, List.length_cons, List.length_nil, List.length_take, List.length_drop, Int.toNat_natCast] <;> omega))))
          | (refine opv_indexaddr (T := TT) rfl rfl rfl rfl ?_ ?_; (next => (first
            | omega
            | decide
            | (simp only [bsOf_mkB, byteA_length, List.length_append, List.length_cons, List.length_nil, List.length_take, List.length_drop, Int.toNat_natCast]; omega)
            | (simp [bsOf_mkB, byteA_length, List.length_append, List.length_cons, List.length_nil, List.length_take, List.length_drop, Int.toNat_natCast]; omega)
            | (simp [bsOf_mkB, byteA_length, List.length_append, List.length_cons, List.length_nil, List.length_take, List.length_drop, Int.toNat_natCast] <;> omega))); (next => (first
            | omega
            | decide
            | (simp only [bsOf_mkB, byteA_length, List.length_append, List.length_cons, List.length_nil, List.length_take, List.length_drop, Int.toNat_natCast]; omega)
            | (simp [bsOf_mkB, byteA_length, List.length_append, List.length_cons, List.length_nil, List.length_take, List.length_drop, Int.toNat_natCast]; omega)
            | (simp [bsOf_mkB, byteA_length, List.length_append, List.length_cons, List.length_nil, List.length_take, List.length_drop, Int.toNat_natCast] <;> omega))))
          | fail)
        | (apply opk ⟨_, .nilCheck _, _, _, _, _⟩; first | exact opv_nil rfl | exact opv_nil_el rfl | fail)
        | (apply opk ⟨_, .fieldAddr _ _ _, _, _, _, _⟩; first
          | exact opv_field_el (T := TT) rfl rfl rfl rfl rfl rfl
          | exact opv_field_box (T := TT) rfl rfl rfl rfl rfl
          | fail)
        | (apply opk ⟨_, .load _ _, _, _, _, _⟩; first | exact opv_load_el (T := TT) rfl rfl rfl | exact opv_load_els (T := TT) rfl rfl rfl rfl | fail)
        | (apply opk ⟨_, .buildSlice _ _ _, _, _, _, _⟩; first | exact opv_build_slice (T := TT) rfl rfl rfl rfl rfl rfl rfl | fail)
        | (apply opk ⟨_, .build _ _, _, _, _, _⟩; first | exact opv_build (T := TT) rfl rfl rfl rfl rfl | fail)
        | (apply opk ⟨_, .pick _ _ _, _, _, _, _⟩; first
          | (refine opv_pickt rfl ?_ rfl; (next => (first
            | rfl
            | assumption
            | (simp only [bsOf_mkB, byteA_length, List.length_append, List.length_cons, List.length_nil, List.length_take, List.length_drop, Int.toNat_natCast]; assumption)
            | (simp [*] <;> omega))))
          | (refine opv_pickf rfl ?_ rfl; (next => (first
            | rfl
            | assumption
            | (simp only [bsOf_mkB, byteA_length, List.length_append, List.length_cons, List.length_nil, List.length_take, List.length_drop, Int.toNat_natCast]; assumption)
            | (simp [*] <;> omega))))
          | fail)
        | (apply opk ⟨_, .makeFunc _ _ _, _, _, _, _⟩; first | exact opv_mkfunc rfl | fail)
        | (apply opk ⟨_, .lookup _ _ _ true, _, _, _, _⟩; first
          | (apply opv_lookup_hit (T := TT) rfl look_hd rfl rfl rfl rfl; assumption)
          | (apply opv_lookup_hit (T := TT) rfl (look_tl (by first | assumption | (intro e; exact absurd e.symm (by assumption))) look_hd) rfl rfl rfl rfl; assumption)
          | (apply opv_lookup_hit (T := TT) rfl (look_tl (by first | assumption | (intro e; exact absurd e.symm (by assumption))) (look_tl (by first | assumption | (intro e; exact absurd e.symm (by assumption))) look_hd)) rfl rfl rfl rfl; assumption)
          | (apply opv_lookup_miss (T := TT) rfl look_hd rfl rfl rfl rfl; assumption)
          | (apply opv_lookup_miss (T := TT) rfl (look_tl (by first | assumption | (intro e; exact absurd e.symm (by assumption))) look_hd) rfl rfl rfl rfl; assumption)
          | (apply opv_lookup_miss (T := TT) rfl (look_tl (by first | assumption | (intro e; exact absurd e.symm (by assumption))) (look_tl (by first | assumption | (intro e; exact absurd e.symm (by assumption))) look_hd)) rfl rfl rfl rfl; assumption)
          | exact opv_lookup_s (T := TT) rfl look_hd rfl rfl rfl rfl
          | (refine opv_lookup_s (T := TT) rfl (look_tl ?_ look_hd) rfl rfl rfl rfl; (next => (first | assumption | (intro e; exact absurd e.symm (by assumption)))))
          | (refine opv_lookup_s (T := TT) rfl (look_tl ?_ (look_tl ?_ look_hd)) rfl rfl rfl rfl; (next => (first | assumption | (intro e; exact absurd e.symm (by assumption)))); (next => (first | assumption | (intro e; exact absurd e.symm (by assumption)))))
          | fail)
        | (apply opk ⟨_, .lookup _ _ _ false, _, _, _, _⟩; first
          | exact opv_lookup1_s (T := TT) rfl look_hd rfl rfl rfl rfl rfl
          | (refine opv_lookup1_s (T := TT) rfl (look_tl ?_ look_hd) rfl rfl rfl rfl rfl; (next => (first | assumption | (intro e; exact absurd e.symm (by assumption)))))
          | (refine opv_lookup1_s (T := TT) rfl (look_tl ?_ (look_tl ?_ look_hd)) rfl rfl rfl rfl rfl; (next => (first | assumption | (intro e; exact absurd e.symm (by assumption)))); (next => (first | assumption | (intro e; exact absurd e.symm (by assumption)))))
          | fail)
        | fail)
    ) : OpV Try.prog o σ u := h
/-- Likewise, in a region that draws. -/
theorem opDQ {u : AV} (h : OpV Try.prog o σ u := by
    (first
        | (apply opk ⟨_, .move _, _, _, _, _⟩; first | exact opv_move rfl rfl | exact opv_const (cst_plain _) (.inl rfl) | exact opv_move_rd rfl (.inl rfl) | fail)
        | (apply opk ⟨_, .assign _, _, _, _, _⟩; first | exact opv_assign rfl rfl | exact opv_move_rd rfl (.inr rfl) | exact opv_assign_const rfl | fail)
        | (apply opk ⟨_, .binOp .add _ _ _ _, _, _, _, _⟩; first
          | (refine opv_add64 rfl rfl rfl ?_; (next => (first
            | omega
            | decide
            | (simp only [bsOf_mkB, byteA_length, List.length_append, List.length_cons, List.length_nil, List.length_take, List.length_drop, Int.toNat_natCast]; omega)
            | (simp [bsOf_mkB, byteA_length, List.length_append, List.length_cons, List.length_nil, List.length_take, List.length_drop, Int.toNat_natCast]; omega)
            | (simp [bsOf_mkB, byteA_length, List.length_append, List.length_cons, List.length_nil, List.length_take, List.length_drop, Int.toNat_natCast] <;> omega))))
          | (refine opv_cat rfl rfl ?_; (next => (first
            | omega
            | decide
            | (simp only [bsOf_mkB, byteA_length, List.length_append, List.length_cons, List.length_nil, List.length_take, List.length_drop, Int.toNat_natCast]; omega)
            | (simp [bsOf_mkB, byteA_length, List.length_append, List.length_cons, List.length_nil, List.length_take, List.length_drop, Int.toNat_natCast]; omega)
            | (simp [bsOf_mkB, byteA_length, List.length_append, List.length_cons, List.length_nil, List.length_take, List.length_drop, Int.toNat_natCast] <;> omega))))
          | exact opv_bin rfl rfl rfl
          | fail)
        | (apply opk ⟨_, .binOp .sub _ _ _ _, _, _, _, _⟩; first
          | (refine opv_sub64 rfl rfl rfl ?_; (next => (first
            | omega
            | decide
            | (simp only [bsOf_mkB, byteA_length, List.length_append, List.length_cons, List.length_nil, List.length_take, List.length_drop, Int.toNat_natCast]; omega)
            | (simp [bsOf_mkB, byteA_length, List.length_append, List.length_cons, List.length_nil, List.length_take, List.length_drop, Int.toNat_natCast]; omega)
            | (simp [bsOf_mkB, byteA_length, List.length_append, List.length_cons, List.length_nil, List.length_take, List.length_drop, Int.toNat_natCast] <;> omega))))
          | exact opv_bin rfl rfl rfl
          | fail)
        | (apply opk ⟨_, .binOp .mul _ _ _ _, _, _, _, _⟩; first
          | (refine opv_mul64 rfl rfl rfl ?_; (next => (first
            | omega
            | decide
            | (simp only [bsOf_mkB, byteA_length, List.length_append, List.length_cons, List.length_nil, List.length_take, List.length_drop, Int.toNat_natCast]; omega)
            | (simp [bsOf_mkB, byteA_length, List.length_append, List.length_cons, List.length_nil, List.length_take, List.length_drop, Int.toNat_natCast]; omega)
            | (simp [bsOf_mkB, byteA_length, List.length_append, List.length_cons, List.length_nil, List.length_take, List.length_drop, Int.toNat_natCast] <;> omega))))
          | exact opv_bin rfl rfl rfl
          | fail)
        | (apply opk ⟨_, .binOp .and _ _ _ _, _, _, _, _⟩; first
          | (refine opv_and_mod 2 4 rfl rfl rfl ?_ ?_ ?_ ?_ ?_; (next => (first | exact .inl rfl | exact .inr rfl)); (next => (decide)); (next => (decide)); (next => (decide)); (next => (first
            | omega
            | decide
            | (simp only [bsOf_mkB, byteA_length, List.length_append, List.length_cons, List.length_nil, List.length_take, List.length_drop, Int.toNat_natCast]; omega)
            | (simp [bsOf_mkB, byteA_length, List.length_append, List.length_cons, List.length_nil, List.length_take, List.length_drop, Int.toNat_natCast]; omega)
            | (simp [bsOf_mkB, byteA_length, List.length_append, List.length_cons, List.length_nil, List.length_take, List.length_drop, Int.toNat_natCast] <;> omega))))
          | (refine opv_and_mod 3 8 rfl rfl rfl ?_ ?_ ?_ ?_ ?_; (next => (first | exact .inl rfl | exact .inr rfl)); (next => (decide)); (next => (decide)); (next => (decide)); (next => (first
            | omega
            | decide
            | (simp only [bsOf_mkB, byteA_length, List.length_append, List.length_cons, List.length_nil, List.length_take, List.length_drop, Int.toNat_natCast]; omega)
            | (simp [bsOf_mkB, byteA_length, List.length_append, List.length_cons, List.length_nil, List.length_take, List.length_drop, Int.toNat_natCast]; omega)
            | (simp [bsOf_mkB, byteA_length, List.length_append, List.length_cons, List.length_nil, List.length_take, List.length_drop, Int.toNat_natCast] <;> omega))))
          | (refine opv_and_mod 7 128 rfl rfl rfl ?_ ?_ ?_ ?_ ?_; (next => (first | exact .inl rfl | exact .inr rfl)); (next => (decide)); (next => (decide)); (next => (decide)); (next => (first
            | omega
            | decide
            | (simp only [bsOf_mkB, byteA_length, List.length_append, List.length_cons, List.length_nil, List.length_take, List.length_drop, Int.toNat_natCast]; omega)
            | (simp [bsOf_mkB, byteA_length, List.length_append, List.length_cons, List.length_nil, List.length_take, List.length_drop, Int.toNat_natCast]; omega)
            | (simp [bsOf_mkB, byteA_length, List.length_append, List.length_cons, List.length_nil, List.length_take, List.length_drop, Int.toNat_natCast] <;> omega))))
          | exact opv_bin rfl rfl rfl
          | fail)
        | (apply opk ⟨_, .binOp .or _ _ _ _, _, _, _, _⟩; first | exact opv_bin rfl rfl rfl | fail)
        | (apply opk ⟨_, .binOp .xor _ _ _ _, _, _, _, _⟩; first | exact opv_bin rfl rfl rfl | fail)
        | (apply opk ⟨_, .binOp .shl _ _ _ _, _, _, _, _⟩; first
          | (refine opv_shl_mul 4 rfl rfl rfl ?_ ?_ ?_; (next => (decide)); (next => (decide)); (next => (first
            | omega
            | decide
            | (simp only [bsOf_mkB, byteA_length, List.length_append, List.length_cons, List.length_nil, List.length_take, List.length_drop, Int.toNat_natCast]; omega)
            | (simp [bsOf_mkB, byteA_length, List.length_append, List.length_cons, List.length_nil, List.length_take, List.length_drop, Int.toNat_natCast]; omega)
            | (simp [bsOf_mkB, byteA_length, List.length_append, List.length_cons, List.length_nil, List.length_take, List.length_drop, Int.toNat_natCast] <;> omega))))
          | (refine opv_shl_mul 8 rfl rfl rfl ?_ ?_ ?_; (next => (decide)); (next => (decide)); (next => (first
            | omega
            | decide
            | (simp only [bsOf_mkB, byteA_length, List.length_append, List.length_cons, List.length_nil, List.length_take, List.length_drop, Int.toNat_natCast]; omega)
            | (simp [bsOf_mkB, byteA_length, List.length_append, List.length_cons, List.length_nil, List.length_take, List.length_drop, Int.toNat_natCast]; omega)
            | (simp [bsOf_mkB, byteA_length, List.length_append, List.length_cons, List.length_nil, List.length_take, List.length_drop, Int.toNat_natCast] <;> omega))))
          | (refine opv_shl_mul 32 rfl rfl rfl ?_ ?_ ?_; (next => (decide)); (next => (decide)); (next => (first
            | omega
            | decide
            | (simp only [bsOf_mkB, byteA_length, List.length_append, List.length_cons, List.length_nil, List.length_take, List.length_drop, Int.toNat_natCast]; omega)
            | (simp [bsOf_mkB, byteA_length, List.length_append, List.length_cons, List.length_nil, List.length_take, List.length_drop, Int.toNat_natCast]; omega)
            | (simp [bsOf_mkB, byteA_length, List.length_append, List.length_cons, List.length_nil, List.length_take, List.length_drop, Int.toNat_natCast] <;> omega))))
          | (refine opv_shl_mul 256 rfl rfl rfl ?_ ?_ ?_; (next => (decide)); (next => (decide)); (next => (first
            | omega
            | decide
            | (simp only [bsOf_mkB, byteA_length, List.length_append, List.length_cons, List.length_nil, List.length_take, List.length_drop, Int.toNat_natCast]; omega)
            | (simp [bsOf_mkB, byteA_length, List.length_append, List.length_cons, List.length_nil, List.length_take, List.length_drop, Int.toNat_natCast]; omega)
            | (simp [bsOf_mkB, byteA_length, List.length_append, List.length_cons, List.length_nil, List.length_take, List.length_drop, Int.toNat_natCast] <;> omega))))
          | (refine opv_shl_mul 65536 rfl rfl rfl ?_ ?_ ?_; (next => (decide)); (next => (decide)); (next => (first
            | omega
            | decide
            | (simp only [bsOf_mkB, byteA_length, List.length_append, List.length_cons, List.length_nil, List.length_take, List.length_drop, Int.toNat_natCast]; omega)
            | (simp [bsOf_mkB, byteA_length, List.length_append, List.length_cons, List.length_nil, List.length_take, List.length_drop, Int.toNat_natCast]; omega)
            | (simp [bsOf_mkB, byteA_length, List.length_append, List.length_cons, List.length_nil, List.length_take, List.length_drop, Int.toNat_natCast] <;> omega))))
          | (refine opv_shl_mul 16777216 rfl rfl rfl ?_ ?_ ?_; (next => (decide)); (next => (decide)); (next => (first
            | omega
            | decide
            | (simp only [bsOf_mkB, byteA_length, List.length_append, List.length_cons, List.length_nil, List.length_take, List.length_drop, Int.toNat_natCast]; omega)
            | (simp [bsOf_mkB, byteA_length, List.length_append, List.length_cons, List.length_nil, List.length_take, List.length_drop, Int.toNat_natCast]; omega)
            | (simp [bsOf_mkB, byteA_length, List.length_append, List.length_cons, List.length_nil, List.length_take, List.length_drop, Int.toNat_natCast] <;> omega))))
          | (refine opv_shl rfl rfl rfl ?_; (next => (first
            | omega
            | decide
            | (simp only [bsOf_mkB, byteA_length, List.length_append, List.length_cons, List.length_nil, List.length_take, List.length_drop, Int.toNat_natCast]; omega)
            | (simp [bsOf_mkB, byteA_length, List.length_append, List.length_cons, List.length_nil, List.length_take, List.length_drop, Int.toNat_natCast]; omega)
            | (simp [bsOf_mkB, byteA_length, List.length_append, List.length_cons, List.length_nil, List.length_take, List.length_drop, Int.toNat_natCast] <;> omega))))
          | fail)
        | (apply opk ⟨_, .binOp .shr _ _ _ _, _, _, _, _⟩; first
          | (refine opv_shr_div 4 rfl rfl rfl ?_ ?_ ?_; (next => (decide)); (next => (decide)); (next => (decide)))
          | (refine opv_shr_div 8 rfl rfl rfl ?_ ?_ ?_; (next => (decide)); (next => (decide)); (next => (decide)))
          | (refine opv_shr_div 128 rfl rfl rfl ?_ ?_ ?_; (next => (decide)); (next => (decide)); (next => (decide)))
          | (refine opv_shr_div 256 rfl rfl rfl ?_ ?_ ?_; (next => (decide)); (next => (decide)); (next => (decide)))
          | (refine opv_shr_div 65536 rfl rfl rfl ?_ ?_ ?_; (next => (decide)); (next => (decide)); (next => (decide)))
          | (refine opv_shr_div 16777216 rfl rfl rfl ?_ ?_ ?_; (next => (decide)); (next => (decide)); (next => (decide)))
          | (refine opv_shr rfl rfl rfl ?_; (next => (first
            | omega
            | decide
            | (simp only [bsOf_mkB, byteA_length, List.length_append, List.length_cons, List.length_nil, List.length_take, List.length_drop, Int.toNat_natCast]; omega)
            | (simp [bsOf_mkB, byteA_length, List.length_append, List.length_cons, List.length_nil, List.length_take, List.length_drop, Int.toNat_natCast]; omega)
            | (simp [bsOf_mkB, byteA_length, List.length_append, List.length_cons, List.length_nil, List.length_take, List.length_drop, Int.toNat_natCast] <;> omega))))
          | fail)
        | (apply opk ⟨_, .binOp .quo _ _ _ _, _, _, _, _⟩; first
          | (refine opv_quo_nn rfl rfl rfl ?_ ?_; (next => (first | exact .inl rfl | exact .inr rfl)); (next => (first
            | omega
            | decide
            | (simp only [bsOf_mkB, byteA_length, List.length_append, List.length_cons, List.length_nil, List.length_take, List.length_drop, Int.toNat_natCast]; omega)
            | (simp [bsOf_mkB, byteA_length, List.length_append, List.length_cons, List.length_nil, List.length_take, List.length_drop, Int.toNat_natCast]; omega)
            | (simp [bsOf_mkB, byteA_length, List.length_append, List.length_cons, List.length_nil, List.length_take, List.length_drop, Int.toNat_natCast] <;> omega))))
          | (refine opv_quo_u rfl rfl rfl ?_; (next => (first
            | omega
            | decide
            | (simp only [bsOf_mkB, byteA_length, List.length_append, List.length_cons, List.length_nil, List.length_take, List.length_drop, Int.toNat_natCast]; omega)
            | (simp [bsOf_mkB, byteA_length, List.length_append, List.length_cons, List.length_nil, List.length_take, List.length_drop, Int.toNat_natCast]; omega)
            | (simp [bsOf_mkB, byteA_length, List.length_append, List.length_cons, List.length_nil, List.length_take, List.length_drop, Int.toNat_natCast] <;> omega))))
          | (refine opv_quo rfl rfl rfl ?_; (next => (first
            | omega
            | decide
            | (simp only [bsOf_mkB, byteA_length, List.length_append, List.length_cons, List.length_nil, List.length_take, List.length_drop, Int.toNat_natCast]; omega)
            | (simp [bsOf_mkB, byteA_length, List.length_append, List.length_cons, List.length_nil, List.length_take, List.length_drop, Int.toNat_natCast]; omega)
            | (simp [bsOf_mkB, byteA_length, List.length_append, List.length_cons, List.length_nil, List.length_take, List.length_drop, Int.toNat_natCast] <;> omega))))
          | fail)
        | (apply opk ⟨_, .binOp .rem _ _ _ _, _, _, _, _⟩; first
          | (refine opv_rem_nn rfl rfl rfl ?_; (next => (first
            | omega
            | decide
            | (simp only [bsOf_mkB, byteA_length, List.length_append, List.length_cons, List.length_nil, List.length_take, List.length_drop, Int.toNat_natCast]; omega)
            | (simp [bsOf_mkB, byteA_length, List.length_append, List.length_cons, List.length_nil, List.length_take, List.length_drop, Int.toNat_natCast]; omega)
            | (simp [bsOf_mkB, byteA_length, List.length_append, List.length_cons, List.length_nil, List.length_take, List.length_drop, Int.toNat_natCast] <;> omega))))
          | (refine opv_rem rfl rfl rfl ?_; (next => (first
            | omega
            | decide
            | (simp only [bsOf_mkB, byteA_length, List.length_append, List.length_cons, List.length_nil, List.length_take, List.length_drop, Int.toNat_natCast]; omega)
            | (simp [bsOf_mkB, byteA_length, List.length_append, List.length_cons, List.length_nil, List.length_take, List.length_drop, Int.toNat_natCast]; omega)
            | (simp [bsOf_mkB, byteA_length, List.length_append, List.length_cons, List.length_nil, List.length_take, List.length_drop, Int.toNat_natCast] <;> omega))))
          | fail)
        | (apply opk ⟨_, .binOp .eql _ _ _ _, _, _, _, _⟩; first
          | (refine opv_cmp_t rfl rfl rfl ?_; (next => (first
            | exact rfl
            | (simp only [cmpP]; omega)
            | (simp only [cmpP, bsOf_mkB, byteA_length, List.length_append, List.length_cons, List.length_nil, List.length_take, List.length_drop, Int.toNat_natCast]; omega))))
          | (refine opv_cmp_f rfl rfl rfl ?_; (next => (first
            | exact rfl
            | (simp only [cmpP]; omega)
            | (simp only [cmpP, bsOf_mkB, byteA_length, List.length_append, List.length_cons, List.length_nil, List.length_take, List.length_drop, Int.toNat_natCast]; omega))))
          | exact opv_bin rfl rfl rfl
          | (refine opv_seq_t rfl rfl rfl ?_; (next => (first | rfl | assumption)))
          | (refine opv_seq_f rfl rfl rfl ?_; (next => (first | rfl | assumption)))
          | exact opv_str rfl rfl rfl
          | fail)
        | (apply opk ⟨_, .binOp .neq _ _ _ _, _, _, _, _⟩; first
          | (refine opv_cmp_t rfl rfl rfl ?_; (next => (first
            | exact rfl
            | (simp only [cmpP]; omega)
            | (simp only [cmpP, bsOf_mkB, byteA_length, List.length_append, List.length_cons, List.length_nil, List.length_take, List.length_drop, Int.toNat_natCast]; omega))))
          | (refine opv_cmp_f rfl rfl rfl ?_; (next => (first
            | exact rfl
            | (simp only [cmpP]; omega)
            | (simp only [cmpP, bsOf_mkB, byteA_length, List.length_append, List.length_cons, List.length_nil, List.length_take, List.length_drop, Int.toNat_natCast]; omega))))
          | exact opv_bin rfl rfl rfl
          | (refine opv_sne_t rfl rfl rfl ?_; (next => (first | rfl | assumption)))
          | (refine opv_sne_f rfl rfl rfl ?_; (next => (first | rfl | assumption)))
          | exact opv_str rfl rfl rfl
          | fail)
        | (apply opk ⟨_, .binOp .lss _ _ _ _, _, _, _, _⟩; first
          | (refine opv_cmp_t rfl rfl rfl ?_; (next => (first
            | exact rfl
            | (simp only [cmpP]; omega)
            | (simp only [cmpP, bsOf_mkB, byteA_length, List.length_append, List.length_cons, List.length_nil, List.length_take, List.length_drop, Int.toNat_natCast]; omega))))
          | (refine opv_cmp_f rfl rfl rfl ?_; (next => (first
            | exact rfl
            | (simp only [cmpP]; omega)
            | (simp only [cmpP, bsOf_mkB, byteA_length, List.length_append, List.length_cons, List.length_nil, List.length_take, List.length_drop, Int.toNat_natCast]; omega))))
          | exact opv_bin rfl rfl rfl
          | exact opv_str rfl rfl rfl
          | fail)
        | (apply opk ⟨_, .binOp .leq _ _ _ _, _, _, _, _⟩; first
          | (refine opv_cmp_t rfl rfl rfl ?_; (next => (first
            | exact rfl
            | (simp only [cmpP]; omega)
            | (simp only [cmpP, bsOf_mkB, byteA_length, List.length_append, List.length_cons, List.length_nil, List.length_take, List.length_drop, Int.toNat_natCast]; omega))))
          | (refine opv_cmp_f rfl rfl rfl ?_; (next => (first
            | exact rfl
            | (simp only [cmpP]; omega)
            | (simp only [cmpP, bsOf_mkB, byteA_length, List.length_append, List.length_cons, List.length_nil, List.length_take, List.length_drop, Int.toNat_natCast]; omega))))
          | exact opv_bin rfl rfl rfl
          | exact opv_str rfl rfl rfl
          | fail)
        | (apply opk ⟨_, .binOp .gtr _ _ _ _, _, _, _, _⟩; first
          | (refine opv_cmp_t rfl rfl rfl ?_; (next => (first
            | exact rfl
            | (simp only [cmpP]; omega)
            | (simp only [cmpP, bsOf_mkB, byteA_length, List.length_append, List.length_cons, List.length_nil, List.length_take, List.length_drop, Int.toNat_natCast]; omega))))
          | (refine opv_cmp_f rfl rfl rfl ?_; (next => (first
            | exact rfl
            | (simp only [cmpP]; omega)
            | (simp only [cmpP, bsOf_mkB, byteA_length, List.length_append, List.length_cons, List.length_nil, List.length_take, List.length_drop, Int.toNat_natCast]; omega))))
          | exact opv_bin rfl rfl rfl
          | exact opv_str rfl rfl rfl
          | fail)
        | (apply opk ⟨_, .binOp .geq _ _ _ _, _, _, _, _⟩; first
          | (refine opv_cmp_t rfl rfl rfl ?_; (next => (first
            | exact rfl
            | (simp only [cmpP]; omega)
            | (simp only [cmpP, bsOf_mkB, byteA_length, List.length_append, List.length_cons, List.length_nil, List.length_take, List.length_drop, Int.toNat_natCast]; omega))))
          | (refine opv_cmp_f rfl rfl rfl ?_; (next => (first
            | exact rfl
            | (simp only [cmpP]; omega)
            | (simp only [cmpP, bsOf_mkB, byteA_length, List.length_append, List.length_cons, List.length_nil, List.length_take, List.length_drop, Int.toNat_natCast]; omega))))
          | exact opv_bin rfl rfl rfl
          | exact opv_str rfl rfl rfl
          | fail)
        | (apply opk ⟨_, .unOp _ _ _, _, _, _, _⟩; first | exact opv_not_t rfl rfl | exact opv_not_f rfl rfl | exact opv_not rfl rfl | exact opv_neg rfl rfl | fail)
        | (apply opk ⟨_, .convert _ _ _, _, _, _, _⟩; first
          | (refine opv_conv_byte (T := TT) rfl rfl rfl ?_; (next => (first | exact .inl rfl | exact .inr (.inl rfl) | exact .inr (.inr rfl))))
          | (refine opv_conv64 (T := TT) rfl rfl rfl ?_; (next => (first
            | omega
            | decide
            | (simp only [bsOf_mkB, byteA_length, List.length_append, List.length_cons, List.length_nil, List.length_take, List.length_drop, Int.toNat_natCast]; omega)
            | (simp [bsOf_mkB, byteA_length, List.length_append, List.length_cons, List.length_nil, List.length_take, List.length_drop, Int.toNat_natCast]; omega)
            | (simp [bsOf_mkB, byteA_length, List.length_append, List.length_cons, List.length_nil, List.length_take, List.length_drop, Int.toNat_natCast] <;> omega))))
          | (refine opv_convu64 (T := TT) rfl rfl rfl ?_; (next => (first
            | omega
            | decide
            | (simp only [bsOf_mkB, byteA_length, List.length_append, List.length_cons, List.length_nil, List.length_take, List.length_drop, Int.toNat_natCast]; omega)
            | (simp [bsOf_mkB, byteA_length, List.length_append, List.length_cons, List.length_nil, List.length_take, List.length_drop, Int.toNat_natCast]; omega)
            | (simp [bsOf_mkB, byteA_length, List.length_append, List.length_cons, List.length_nil, List.length_take, List.length_drop, Int.toNat_natCast] <;> omega))))
          | exact opv_conv8 (T := TT) rfl rfl rfl
          | exact opv_conv_int (T := TT) rfl rfl rfl
          | exact opv_conv_str (T := TT) rfl rfl rfl
          | exact opv_bytes_str (T := TT) rfl rfl rfl rfl
          | exact opv_str_bytes (T := TT) rfl rfl rfl rfl
          | fail)
        | (apply opk ⟨_, .call { callee := .builtin .len, args := _, argTypes := _ }, _, _, _, _⟩; first
          | exact opv_len_str (T := TT) rfl rfl rfl
          | exact opv_len_sl (T := TT) rfl rfl rfl
          | exact opv_len_nil (T := TT) rfl rfl rfl
          | fail)
        | (apply opk ⟨_, .call { callee := .builtin .min, args := _, argTypes := _ }, _, _, _, _⟩; first
          | (refine opv_min_l rfl rfl ?_; (next => (first
            | omega
            | decide
            | (simp only [bsOf_mkB, byteA_length, List.length_append, List.length_cons, List.length_nil, List.length_take, List.length_drop, Int.toNat_natCast]; omega)
            | (simp [bsOf_mkB, byteA_length, List.length_append, List.length_cons, List.length_nil, List.length_take, List.length_drop, Int.toNat_natCast]; omega)
            | (simp [bsOf_mkB, byteA_length, List.length_append, List.length_cons, List.length_nil, List.length_take, List.length_drop, Int.toNat_natCast] <;> omega))))
          | (refine opv_min_r rfl rfl ?_; (next => (first
            | omega
            | decide
            | (simp only [bsOf_mkB, byteA_length, List.length_append, List.length_cons, List.length_nil, List.length_take, List.length_drop, Int.toNat_natCast]; omega)
            | (simp [bsOf_mkB, byteA_length, List.length_append, List.length_cons, List.length_nil, List.length_take, List.length_drop, Int.toNat_natCast]; omega)
            | (simp [bsOf_mkB, byteA_length, List.length_append, List.length_cons, List.length_nil, List.length_take, List.length_drop, Int.toNat_natCast] <;> omega))))
          | exact opv_min rfl rfl
          | fail)
        | (apply opk ⟨_, .extract _ _, _, _, _, _⟩; first | exact opv_extract rfl rfl | fail)
        | (apply opk ⟨_, .index _ _ _, _, _, _, _⟩; first
          | (refine opv_index_str (T := TT) rfl rfl rfl ?_ ?_; (next => (first
            | omega
            | decide
            | (simp only [bsOf_mkB, byteA_length, List.length_append, List.length_cons, List.length_nil, List.length_take, List.length_drop, Int.toNat_natCast]; omega)
            | (simp [bsOf_mkB, byteA_length, List.length_append, List.length_cons, List.length_nil, List.length_take, List.length_drop, Int.toNat_natCast]; omega)
            | (simp [bsOf_mkB, byteA_length, List.length_append, List.length_cons, List.length_nil, List.length_take, List.length_drop, Int.toNat_natCast] <;> omega))); (next => (first
            | omega
            | decide
            | (simp only [bsOf_mkB, byteA_length, List.length_append, List.length_cons, List.length_nil, List.length_take, List.length_drop, Int.toNat_natCast]; omega)
            | (simp [bsOf_mkB, byteA_length, List.length_append, List.length_cons, List.length_nil, List.length_take, List.length_drop, Int.toNat_natCast]; omega)
            | (simp [bsOf_mkB, byteA_length, List.length_append, List.length_cons, List.length_nil, List.length_take, List.length_drop, Int.toNat_natCast] <;> omega))))
          | fail)
        | (apply opk ⟨_, .slice _ _ _ _ _, _, _, _, _⟩; first
          | (refine opv_slice_str (T := TT) (k1 := .i64) (k2 := .i64) rfl rfl rfl rfl ?_ ?_ ?_; (next => (first
            | omega
            | decide
            | (simp only [bsOf_mkB, byteA_length, List.length_append, List.length_cons, List.length_nil, List.length_take, List.length_drop, Int.toNat_natCast]; omega)
            | (simp [bsOf_mkB, byteA_length, List.length_append, List.length_cons, List.length_nil, List.length_take, List.length_drop, Int.toNat_natCast]; omega)
            | (simp [bsOf_mkB, byteA_length, List.length_append, List.length_cons, List.length_nil, List.length_take, List.length_drop, Int.toNat_natCast] <;> omega))); (next => (first
            | omega
            | decide
            | (simp only [bsOf_mkB, byteA_length, List.length_append, List.length_cons, List.length_nil, List.length_take, List.length_drop, Int.toNat_natCast]; omega)
            | (simp [bsOf_mkB, byteA_length, List.length_append, List.length_cons, List.length_nil, List.length_take, List.length_drop, Int.toNat_natCast]; omega)
            | (simp [bsOf_mkB, byteA_length, List.length_append, List.length_cons, List.length_nil, List.length_take, List.length_drop, Int.toNat_natCast] <;> omega))); (next => (first
            | omega
            | decide
            | (simp only [bsOf_mkB, byteA_length, List.length_append, List.length_cons, List.length_nil, List.length_take, List.length_drop, Int.toNat_natCast]; omega)
            | (simp [bsOf_mkB, byteA_length, List.length_append, List.length_cons, List.length_nil, List.length_take, List.length_drop, Int.toNat_natCast]; omega)
            | (simp [bsOf_mkB, byteA_length, List.length_append, List.length_cons, List.length_nil, List.length_take, List.length_drop, Int.toNat_natCast] <;> omega))))
          | (refine opv_slice_sl (T := TT) (k1 := .i64) (k2 := .i64) rfl rfl rfl rfl rfl ?_ ?_ ?_; (next => (first
            | omega
            | decide
            | (simp only [bsOf_mkB, byteA_length, List.length_append, List.length_cons, List.length_nil, List.length_take, List.length_drop, Int.toNat_natCast]; omega)
            | (simp [bsOf_mkB, byteA_length, List.length_append, List.length_cons, List.length_nil, List.length_take, List.length_drop, Int.toNat_natCast]; omega)
            | (simp [bsOf_mkB, byteA_length, List.length_append, List.length_cons, List.length_nil, List.length_take, List.length_drop, Int.toNat_natCast] <;> omega))); (next => (first
            | omega
            | decide
            | (simp only [bsOf_mkB, byteA_length, List.length_append, List.length_cons, List.length_nil, List.length_take, List.length_drop, Int.toNat_natCast]; omega)
            | (simp [bsOf_mkB, byteA_length, List.length_append, List.length_cons, List.length_nil, List.length_take, List.length_drop, Int.toNat_natCast]; omega)
            | (simp [bsOf_mkB, byteA_length, List.length_append, List.length_cons, List.length_nil, List.length_take, List.length_drop, Int.toNat_natCast] <;> omega))); (next => (first
            | omega
            | decide
            | (simp only [bsOf_mkB, byteA_length, List.length_append, List.length_cons, List.length_nil, List.length_take, List.length_drop, Int.toNat_natCast]; omega)
            | (simp [bsOf_mkB, byteA_length, List.length_append, List.length_cons, List.length_nil, List.length_take, List.length_drop, Int.toNat_natCast]; omega)
            | (simp [bsOf_mkB, byteA_length, List.length_append, List.length_cons, List.length_nil, List.length_take, List.length_drop, Int.toNat_natCast] <;> omega))))
          | fail)
        | (apply opk ⟨_, .indexAddr _ _ _, _, _, _, _⟩; first
          | (refine opv_indexaddr_byte (T := TT) rfl rfl rfl rfl ?_ ?_; (next => (first
            | omega
            | decide
            | (simp only [bsOf_mkB, byteA_length, List.length_append, List.length_cons, List.length_nil, List.length_take, List.length_drop, Int.toNat_natCast]; omega)
            | (simp [bsOf_mkB, byteA_length, List.length_append, List.length_cons, List.length_nil, List.length_take, List.length_drop, Int.toNat_natCast]; omega)
            | (simp [bsOf_mkB, byteA_length, List.length_append, List.length_cons, List.length_nil, List.length_take, List.length_drop, Int.toNat_natCast] <;> omega))); (next => (first
            | omega
            | decide
            | (simp only [bsOf_mkB, byteA_length, List.length_append, List.length_cons, List.length_nil, List.length_take, List.length_drop, Int.toNat_natCast]; omega)
            | (simp [bsOf_mkB, byteA_length, List.length_append, List.length_cons, List.length_nil, List.length_take, List.length_drop, Int.toNat_natCast]; omega)
            | (simp [bsOf_mkB, byteA_length, List.length_append, List.length_cons, List.length_nil, List.length_take, List.length_drop, Int.toNat_natCast] <;> omega))))
          | (refine opv_indexaddr (T := TT) rfl rfl rfl rfl ?_ ?_; (next => (first
            | omega
            | decide
            | (simp only [bsOf_mkB, byteA_length, List.length_append, List.length_cons, List.length_nil, List.length_take, List.length_drop, Int.toNat_natCast]; omega)
            | (simp [bsOf_mkB, byteA_length, List.length_append, List.length_cons, List.length_nil, List.length_take, List.length_drop, Int.toNat_natCast]; omega)
            | (simp [bsOf_mkB, byteA_length, List.length_append, List.length_cons, List.length_nil, List.length_take, List.length_drop, Int.toNat_natCast] <;> omega))); (next => (first
            | omega
            | decide
            | (simp only [bsOf_mkB, byteA_length, List.length_append, List.length_cons, List.length_nil, List.length_take, List.length_drop, Int.toNat_natCast]; omega)
            | (simp [bsOf_mkB, byteA_length, List.length_append, List.length_cons, List.length_nil, List.length_take, List.length_drop, Int.toNat_natCast]; omega)
            | (simp [bsOf_mkB, byteA_length, List.length_append, List.length_cons, List.length_nil, List.length_take, List.length_drop, Int.toNat_natCast] <;> omega))))
          | fail)
        | (apply opk ⟨_, .nilCheck _, _, _, _, _⟩; first | exact opv_nil rfl | exact opv_nil_el rfl | fail)
        | (apply opk ⟨_, .fieldAddr _ _ _, _, _, _, _⟩; first
          | exact opv_field_el (T := TT) rfl rfl rfl rfl rfl rfl
          | exact opv_field_box (T := TT) rfl rfl rfl rfl rfl
          | fail)
        | (apply opk ⟨_, .load _ _, _, _, _, _⟩; first
          | exact opv_load_el (T := TT) rfl rfl rfl
          | exact opv_load_els (T := TT) rfl rfl rfl rfl
          | exact opv_load_box (T := TT) rfl look_hd rfl rfl rfl
          | (refine opv_load_box (T := TT) rfl (look_tl ?_ look_hd) rfl rfl rfl; (next => (first | assumption | (intro e; exact absurd e.symm (by assumption)))))
          | (refine opv_load_box (T := TT) rfl (look_tl ?_ (look_tl ?_ look_hd)) rfl rfl rfl; (next => (first | assumption | (intro e; exact absurd e.symm (by assumption)))); (next => (first | assumption | (intro e; exact absurd e.symm (by assumption)))))
          | exact opv_load_boxs (T := TT) rfl look_hd rfl rfl rfl
          | (refine opv_load_boxs (T := TT) rfl (look_tl ?_ look_hd) rfl rfl rfl; (next => (first | assumption | (intro e; exact absurd e.symm (by assumption)))))
          | (refine opv_load_boxs (T := TT) rfl (look_tl ?_ (look_tl ?_ look_hd)) rfl rfl rfl; (next => (first | assumption | (intro e; exact absurd e.symm (by assumption)))); (next => (first | assumption | (intro e; exact absurd e.symm (by assumption)))))
          | fail)
        | (apply opk ⟨_, .buildSlice _ _ _, _, _, _, _⟩; first | exact opv_build_slice (T := TT) rfl rfl rfl rfl rfl rfl rfl | fail)
        | (apply opk ⟨_, .build _ _, _, _, _, _⟩; first | exact opv_build (T := TT) rfl rfl rfl rfl rfl | fail)
        | (apply opk ⟨_, .pick _ _ _, _, _, _, _⟩; first
          | (refine opv_pickt rfl ?_ rfl; (next => (first
            | rfl
            | assumption
            | (simp only [bsOf_mkB, byteA_length, List.length_append, List.length_cons, List.length_nil, List.length_take, List.length_drop, Int.toNat_natCast]; assumption)
            | (simp [*] <;> omega))))
          | (refine opv_pickf rfl ?_ rfl; (next => (first
            | rfl
            | assumption
            | (simp only [bsOf_mkB, byteA_length, List.length_append, List.length_cons, List.length_nil, List.length_take, List.length_drop, Int.toNat_natCast]; assumption)
            | (simp [*] <;> omega))))
          | fail)
        | (apply opk ⟨_, .makeFunc _ _ _, _, _, _, _⟩; first | exact opv_mkfunc rfl | fail)
        | (apply opk ⟨_, .lookup _ _ _ true, _, _, _, _⟩; first
          | (apply opv_lookup_hit (T := TT) rfl look_hd rfl rfl rfl rfl; assumption)
          | (apply opv_lookup_hit (T := TT) rfl (look_tl (by first | assumption | (intro e; exact absurd e.symm (by assumption))) look_hd) rfl rfl rfl rfl; assumption)
          | (apply opv_lookup_hit (T := TT) rfl (look_tl (by first | assumption | (intro e; exact absurd e.symm (by assumption))) (look_tl (by first | assumption | (intro e; exact absurd e.symm (by assumption))) look_hd)) rfl rfl rfl rfl; assumption)
          | (apply opv_lookup_miss (T := TT) rfl look_hd rfl rfl rfl rfl; assumption)
          | (apply opv_lookup_miss (T := TT) rfl (look_tl (by first | assumption | (intro e; exact absurd e.symm (by assumption))) look_hd) rfl rfl rfl rfl; assumption)
          | (apply opv_lookup_miss (T := TT) rfl (look_tl (by first | assumption | (intro e; exact absurd e.symm (by assumption))) (look_tl (by first | assumption | (intro e; exact absurd e.symm (by assumption))) look_hd)) rfl rfl rfl rfl; assumption)
          | exact opv_lookup_s (T := TT) rfl look_hd rfl rfl rfl rfl
          | (refine opv_lookup_s (T := TT) rfl (look_tl ?_ look_hd) rfl rfl rfl rfl; (next => (first | assumption | (intro e; exact absurd e.symm (by assumption)))))
          | (refine opv_lookup_s (T := TT) rfl (look_tl ?_ (look_tl ?_ look_hd)) rfl rfl rfl rfl; (next => (first | assumption | (intro e; exact absurd e.symm (by assumption)))); (next => (first | assumption | (intro e; exact absurd e.symm (by assumption)))))
          | fail)
        | (apply opk ⟨_, .lookup _ _ _ false, _, _, _, _⟩; first
          | exact opv_lookup1_s (T := TT) rfl look_hd rfl rfl rfl rfl rfl
          | (refine opv_lookup1_s (T := TT) rfl (look_tl ?_ look_hd) rfl rfl rfl rfl rfl; (next => (first | assumption | (intro e; exact absurd e.symm (by assumption)))))
          | (refine opv_lookup1_s (T := TT) rfl (look_tl ?_ (look_tl ?_ look_hd)) rfl rfl rfl rfl rfl; (next => (first | assumption | (intro e; exact absurd e.symm (by assumption)))); (next => (first | assumption | (intro e; exact absurd e.symm (by assumption)))))
          | fail)
        | fail)
    ) : OpV Try.prog o σ u := h
theorem ar_effD (ho : l[k]? = some o) (hw : wantedA l σ o = some true) (hn : ARun Try.prog Q (.o l (k + 1) rest :: ks) σ'') (h : EffTo Try.prog o σ σ' := by
    (first
        | (apply effk ⟨_, .call { callee := .builtin .append, args := _, argTypes := _ }, _, _, _, _⟩; first
          | (refine fun R hR => eff_append (T := TT) rfl rfl rfl rfl ?_ rfl rfl (adds_str rfl) ?_ rfl hR; (next => (first | exact .inl rfl | exact .inr ⟨_, rfl⟩)); (next => (first
            | omega
            | decide
            | (simp only [bsOf_mkB, byteA_length, List.length_append, List.length_cons, List.length_nil, List.length_take, List.length_drop, Int.toNat_natCast]; omega)
            | (simp [bsOf_mkB, byteA_length, List.length_append, List.length_cons, List.length_nil, List.length_take, List.length_drop, Int.toNat_natCast]; omega)
            | (simp [bsOf_mkB, byteA_length, List.length_append, List.length_cons, List.length_nil, List.length_take, List.length_drop, Int.toNat_natCast] <;> omega))))
          | (refine fun R hR => eff_append (T := TT) rfl rfl rfl rfl ?_ rfl rfl (adds_nil rfl) ?_ rfl hR; (next => (first | exact .inl rfl | exact .inr ⟨_, rfl⟩)); (next => (first
            | omega
            | decide
            | (simp only [bsOf_mkB, byteA_length, List.length_append, List.length_cons, List.length_nil, List.length_take, List.length_drop, Int.toNat_natCast]; omega)
            | (simp [bsOf_mkB, byteA_length, List.length_append, List.length_cons, List.length_nil, List.length_take, List.length_drop, Int.toNat_natCast]; omega)
            | (simp [bsOf_mkB, byteA_length, List.length_append, List.length_cons, List.length_nil, List.length_take, List.length_drop, Int.toNat_natCast] <;> omega))))
          | (refine fun R hR => eff_append (T := TT) rfl rfl rfl rfl ?_ rfl rfl (adds_sl rfl ?_) ?_ rfl hR; (next => (first | exact .inl rfl | exact .inr ⟨_, rfl⟩)); (next => (first | exact rowsOne_byteA _ | (simp [RowsOne, AV.one, AV.rd, AV.cells, cst, Value.oneCell'] <;> omega))); (next => (first
            | omega
            | decide
            | (simp only [bsOf_mkB, byteA_length, List.length_append, List.length_cons, List.length_nil, List.length_take, List.length_drop, Int.toNat_natCast]; omega)
            | (simp [bsOf_mkB, byteA_length, List.length_append, List.length_cons, List.length_nil, List.length_take, List.length_drop, Int.toNat_natCast]; omega)
            | (simp [bsOf_mkB, byteA_length, List.length_append, List.length_cons, List.length_nil, List.length_take, List.length_drop, Int.toNat_natCast] <;> omega))))
          | (refine fun R hR => eff_append (T := TT) rfl (own_c look_hd rfl) rfl rfl ?_ rfl rfl (adds_str rfl) ?_ rfl hR; (next => (first | exact .inl rfl | exact .inr ⟨_, rfl⟩)); (next => (first
            | omega
            | decide
            | (simp only [bsOf_mkB, byteA_length, List.length_append, List.length_cons, List.length_nil, List.length_take, List.length_drop, Int.toNat_natCast]; omega)
            | (simp [bsOf_mkB, byteA_length, List.length_append, List.length_cons, List.length_nil, List.length_take, List.length_drop, Int.toNat_natCast]; omega)
            | (simp [bsOf_mkB, byteA_length, List.length_append, List.length_cons, List.length_nil, List.length_take, List.length_drop, Int.toNat_natCast] <;> omega))))
          | (refine fun R hR => eff_append (T := TT) rfl (own_c look_hd rfl) rfl rfl ?_ rfl rfl (adds_nil rfl) ?_ rfl hR; (next => (first | exact .inl rfl | exact .inr ⟨_, rfl⟩)); (next => (first
            | omega
            | decide
            | (simp only [bsOf_mkB, byteA_length, List.length_append, List.length_cons, List.length_nil, List.length_take, List.length_drop, Int.toNat_natCast]; omega)
            | (simp [bsOf_mkB, byteA_length, List.length_append, List.length_cons, List.length_nil, List.length_take, List.length_drop, Int.toNat_natCast]; omega)
            | (simp [bsOf_mkB, byteA_length, List.length_append, List.length_cons, List.length_nil, List.length_take, List.length_drop, Int.toNat_natCast] <;> omega))))
          | (refine fun R hR => eff_append (T := TT) rfl (own_c look_hd rfl) rfl rfl ?_ rfl rfl (adds_sl rfl ?_) ?_ rfl hR; (next => (first | exact .inl rfl | exact .inr ⟨_, rfl⟩)); (next => (first | exact rowsOne_byteA _ | (simp [RowsOne, AV.one, AV.rd, AV.cells, cst, Value.oneCell'] <;> omega))); (next => (first
            | omega
            | decide
            | (simp only [bsOf_mkB, byteA_length, List.length_append, List.length_cons, List.length_nil, List.length_take, List.length_drop, Int.toNat_natCast]; omega)
            | (simp [bsOf_mkB, byteA_length, List.length_append, List.length_cons, List.length_nil, List.length_take, List.length_drop, Int.toNat_natCast]; omega)
            | (simp [bsOf_mkB, byteA_length, List.length_append, List.length_cons, List.length_nil, List.length_take, List.length_drop, Int.toNat_natCast] <;> omega))))
          | (refine fun R hR => eff_append (T := TT) rfl (own_c (look_tl ?_ look_hd) rfl) rfl rfl ?_ rfl rfl (adds_str rfl) ?_ rfl hR; (next => (first | assumption | (intro e; exact absurd e.symm (by assumption)))); (next => (first | exact .inl rfl | exact .inr ⟨_, rfl⟩)); (next => (first
            | omega
            | decide
            | (simp only [bsOf_mkB, byteA_length, List.length_append, List.length_cons, List.length_nil, List.length_take, List.length_drop, Int.toNat_natCast]; omega)
            | (simp [bsOf_mkB, byteA_length, List.length_append, List.length_cons, List.length_nil, List.length_take, List.length_drop, Int.toNat_natCast]; omega)
            | (simp [bsOf_mkB, byteA_length, List.length_append, List.length_cons, List.length_nil, List.length_take, List.length_drop, Int.toNat_natCast] <;> omega))))
          | (refine fun R hR => eff_append (T := TT) rfl (own_c (look_tl ?_ look_hd) rfl) rfl rfl ?_ rfl rfl (adds_nil rfl) ?_ rfl hR; (next => (first | assumption | (intro e; exact absurd e.symm (by assumption)))); (next => (first | exact .inl rfl | exact .inr ⟨_, rfl⟩)); (next => (first
            | omega
            | decide
            | (simp only [bsOf_mkB, byteA_length, List.length_append, List.length_cons, List.length_nil, List.length_take, List.length_drop, Int.toNat_natCast]; omega)
            | (simp [bsOf_mkB, byteA_length, List.length_append, List.length_cons, List.length_nil, List.length_take, List.length_drop, Int.toNat_natCast]; omega)
            | (simp [bsOf_mkB, byteA_length, List.length_append, List.length_cons, List.length_nil, List.length_take, List.length_drop, Int.toNat_natCast] <;> omega))))
          | (refine fun R hR => eff_append (T := TT) rfl (own_c (look_tl ?_ look_hd) rfl) rfl rfl ?_ rfl rfl (adds_sl rfl ?_) ?_ rfl hR; (next => (first | assumption | (intro e; exact absurd e.symm (by assumption)))); (next => (first | exact .inl rfl | exact .inr ⟨_, rfl⟩)); (next => (first | exact rowsOne_byteA _ | (simp [RowsOne, AV.one, AV.rd, AV.cells, cst, Value.oneCell'] <;> omega))); (next => (first
            | omega
            | decide
            | (simp only [bsOf_mkB, byteA_length, List.length_append, List.length_cons, List.length_nil, List.length_take, List.length_drop, Int.toNat_natCast]; omega)
            | (simp [bsOf_mkB, byteA_length, List.length_append, List.length_cons, List.length_nil, List.length_take, List.length_drop, Int.toNat_natCast]; omega)
            | (simp [bsOf_mkB, byteA_length, List.length_append, List.length_cons, List.length_nil, List.length_take, List.length_drop, Int.toNat_natCast] <;> omega))))
          | (refine fun R hR => eff_append_nil (T := TT) rfl rfl rfl ?_ rfl rfl (adds_str rfl) ?_ rfl hR; (next => (first | exact .inl rfl | exact .inr ⟨_, rfl⟩)); (next => (first
            | omega
            | decide
            | (simp only [bsOf_mkB, byteA_length, List.length_append, List.length_cons, List.length_nil, List.length_take, List.length_drop, Int.toNat_natCast]; omega)
            | (simp [bsOf_mkB, byteA_length, List.length_append, List.length_cons, List.length_nil, List.length_take, List.length_drop, Int.toNat_natCast]; omega)
            | (simp [bsOf_mkB, byteA_length, List.length_append, List.length_cons, List.length_nil, List.length_take, List.length_drop, Int.toNat_natCast] <;> omega))))
          | (refine fun R hR => eff_append_nil (T := TT) rfl rfl rfl ?_ rfl rfl (adds_nil rfl) ?_ rfl hR; (next => (first | exact .inl rfl | exact .inr ⟨_, rfl⟩)); (next => (first
            | omega
            | decide
            | (simp only [bsOf_mkB, byteA_length, List.length_append, List.length_cons, List.length_nil, List.length_take, List.length_drop, Int.toNat_natCast]; omega)
            | (simp [bsOf_mkB, byteA_length, List.length_append, List.length_cons, List.length_nil, List.length_take, List.length_drop, Int.toNat_natCast]; omega)
            | (simp [bsOf_mkB, byteA_length, List.length_append, List.length_cons, List.length_nil, List.length_take, List.length_drop, Int.toNat_natCast] <;> omega))))
          | (refine fun R hR => eff_append_nil (T := TT) rfl rfl rfl ?_ rfl rfl (adds_sl rfl ?_) ?_ rfl hR; (next => (first | exact .inl rfl | exact .inr ⟨_, rfl⟩)); (next => (first | exact rowsOne_byteA _ | (simp [RowsOne, AV.one, AV.rd, AV.cells, cst, Value.oneCell'] <;> omega))); (next => (first
            | omega
            | decide
            | (simp only [bsOf_mkB, byteA_length, List.length_append, List.length_cons, List.length_nil, List.length_take, List.length_drop, Int.toNat_natCast]; omega)
            | (simp [bsOf_mkB, byteA_length, List.length_append, List.length_cons, List.length_nil, List.length_take, List.length_drop, Int.toNat_natCast]; omega)
            | (simp [bsOf_mkB, byteA_length, List.length_append, List.length_cons, List.length_nil, List.length_take, List.length_drop, Int.toNat_natCast] <;> omega))))
          | fail)
        | (apply effk ⟨_, .store _ _ _, _, _, _, _⟩; first
          | (apply effTo_store_own (T := TT) rfl rfl rfl; (next => (first | rfl | exact look_hd | exact look_tl (by assumption) look_hd | exact look_tl (fun e => absurd e.symm (by assumption)) look_hd)); (next => rfl); (next => rfl); (next => rfl))
          | (refine fun R hR => eff_store (T := TT) rfl look_hd rfl rfl rfl rfl rfl ?_ rfl hR; (next => (simp [Plain1, own1, AV.cells, AV.rd] <;> omega)))
          | (refine fun R hR => eff_store (T := TT) rfl (look_tl ?_ look_hd) rfl rfl rfl rfl rfl ?_ rfl hR; (next => (first | assumption | (intro e; exact absurd e.symm (by assumption)))); (next => (simp [Plain1, own1, AV.cells, AV.rd] <;> omega)))
          | (refine fun R hR => eff_store (T := TT) rfl (look_tl ?_ (look_tl ?_ look_hd)) rfl rfl rfl rfl rfl ?_ rfl hR; (next => (first | assumption | (intro e; exact absurd e.symm (by assumption)))); (next => (first | assumption | (intro e; exact absurd e.symm (by assumption)))); (next => (simp [Plain1, own1, AV.cells, AV.rd] <;> omega)))
          | fail)
        | (apply effk ⟨_, .mapUpdate _ _ _ _, _, _, _, _⟩; first
          | refine fun R hR => eff_mapset_s (T := TT) rfl look_hd rfl rfl rfl rfl hR
          | (refine fun R hR => eff_mapset_s (T := TT) rfl (look_tl ?_ look_hd) rfl rfl rfl rfl hR; (next => (first | assumption | (intro e; exact absurd e.symm (by assumption)))))
          | (refine fun R hR => eff_mapset_s (T := TT) rfl (look_tl ?_ (look_tl ?_ look_hd)) rfl rfl rfl rfl hR; (next => (first | assumption | (intro e; exact absurd e.symm (by assumption)))); (next => (first | assumption | (intro e; exact absurd e.symm (by assumption)))))
          | fail)
        | fail)
    ) (hs : σ' = σ'' := by
    (first
        | (simp only [AS.keep, AS.save, keepT, AS.put, AS.mv, AS.free, AS.hand, AS.alias, AS.lay, AS.dropC, AS.box, AS.setc, splice, rootOf, firstAl, AS.own, own1, look_cons, look_nil, AV.rd, cst, List.filter_cons, List.filter_nil, List.filterMap_cons, List.filterMap_nil, Root.in, Root.keepB, List.contains_cons, List.contains_nil, List.elem_eq_contains, Nat.reduceBEq, Nat.reduceEqDiff, Nat.beq_eq_true_eq, Bool.and_true, Bool.true_and, Bool.false_and, Bool.and_false, Bool.or_true, Bool.or_false, Bool.true_or, Bool.false_or, Bool.not_true, Bool.not_false, Bool.false_eq_true, if_true, if_false, reduceIte, ite_true, ite_false, beq_self_eq_true, callSt, layAll, List.nil_append, List.cons_append, List.map_cons, List.map_nil, AV.cells, reduceCtorEq, String.reduceEq, List.take_succ_cons, List.take_zero, List.drop_succ_cons, List.drop_zero, List.length_cons, List.length_nil, Nat.zero_add, Nat.reduceAdd, List.take_nil, List.drop_nil, List.append_nil, List.getElem?_cons_zero, List.getElem?_cons_succ, List.set_cons_zero, List.set_cons_succ, Value.cells, bsOf_mkB, bsOf_list, bsOf_arr, bsOf_nil, Int.toNat_natCast, Int.toNat_zero, Int.reduceToNat, List.take_length, List.drop_length, List.take_take, Nat.min_self, decide_true, decide_false, List.length_append, byteA_length, List.getElem_toArray, List.getElem_cons_zero, List.getElem_cons_succ, Nat.add_zero, List.getD_cons_zero]; exact rfl)
        | exact rfl)
    ) : ARun Try.prog Q (.o l k (o :: rest) :: ks) σ := ar_eff ho hw (h _ (hs ▸ hn))
theorem effD {R : AS → Prop} (hR : R σ') (h : EffTo Try.prog o σ σ' := by
    (first
        | (apply effk ⟨_, .call { callee := .builtin .append, args := _, argTypes := _ }, _, _, _, _⟩; first
          | (refine fun R hR => eff_append (T := TT) rfl rfl rfl rfl ?_ rfl rfl (adds_str rfl) ?_ rfl hR; (next => (first | exact .inl rfl | exact .inr ⟨_, rfl⟩)); (next => (first
            | omega
            | decide
            | (simp only [bsOf_mkB, byteA_length, List.length_append, List.length_cons, List.length_nil, List.length_take, List.length_drop, Int.toNat_natCast]; omega)
            | (simp [bsOf_mkB, byteA_length, List.length_append, List.length_cons, List.length_nil, List.length_take, List.length_drop, Int.toNat_natCast]; omega)
            | (simp [bsOf_mkB, byteA_length, List.length_append, List.length_cons, List.length_nil, List.length_take, List.length_drop, Int.toNat_natCast] <;> omega))))
          | (refine fun R hR => eff_append (T := TT) rfl rfl rfl rfl ?_ rfl rfl (adds_nil rfl) ?_ rfl hR; (next => (first | exact .inl rfl | exact .inr ⟨_, rfl⟩)); (next => (first
            | omega
            | decide
            | (simp only [bsOf_mkB, byteA_length, List.length_append, List.length_cons, List.length_nil, List.length_take, List.length_drop, Int.toNat_natCast]; omega)
            | (simp [bsOf_mkB, byteA_length, List.length_append, List.length_cons, List.length_nil, List.length_take, List.length_drop, Int.toNat_natCast]; omega)
            | (simp [bsOf_mkB, byteA_length, List.length_append, List.length_cons, List.length_nil, List.length_take, List.length_drop, Int.toNat_natCast] <;> omega))))
          | (refine fun R hR => eff_append (T := TT) rfl rfl rfl rfl ?_ rfl rfl (adds_sl rfl ?_) ?_ rfl hR; (next => (first | exact .inl rfl | exact .inr ⟨_, rfl⟩)); (next => (first | exact rowsOne_byteA _ | (simp [RowsOne, AV.one, AV.rd, AV.cells, cst, Value.oneCell'] <;> omega))); (next => (first
            | omega
            | decide
            | (simp only [bsOf_mkB, byteA_length, List.length_append, List.length_cons, List.length_nil, List.length_take, List.length_drop, Int.toNat_natCast]; omega)
            | (simp [bsOf_mkB, byteA_length, List.length_append, List.length_cons, List.length_nil, List.length_take, List.length_drop, Int.toNat_natCast]; omega)
            | (simp [bsOf_mkB, byteA_length, List.length_append, List.length_cons, List.length_nil, List.length_take, List.length_drop, Int.toNat_natCast] <;> omega))))
          | (refine fun R hR => eff_append (T := TT) rfl (own_c look_hd rfl) rfl rfl ?_ rfl rfl (adds_str rfl) ?_ rfl hR; (next => (first | exact .inl rfl | exact .inr ⟨_, rfl⟩)); (next => (first
            | omega
            | decide
            | (simp only [bsOf_mkB, byteA_length, List.length_append, List.length_cons, List.length_nil, List.length_take, List.length_drop, Int.toNat_natCast]; omega)
            | (simp [bsOf_mkB, byteA_length, List.length_append, List.length_cons, List.length_nil, List.length_take, List.length_drop, Int.toNat_natCast]; omega)
            | (simp [bsOf_mkB, byteA_length, List.length_append, List.length_cons, List.length_nil, List.length_take, List.length_drop, Int.toNat_natCast] <;> omega))))
          | (refine fun R hR => eff_append (T := TT) rfl (own_c look_hd rfl) rfl rfl ?_ rfl rfl (adds_nil rfl) ?_ rfl hR; (next => (first | exact .inl rfl | exact .inr ⟨_, rfl⟩)); (next => (first
            | omega
            | decide
            | (simp only [bsOf_mkB, byteA_length, List.length_append, List.length_cons, List.length_nil, List.length_take, List.length_drop, Int.toNat_natCast]; omega)
            | (simp [bsOf_mkB, byteA_length, List.length_append, List.length_cons, List.length_nil, List.length_take, List.length_drop, Int.toNat_natCast]; omega)
            | (simp [bsOf_mkB, byteA_length, List.length_append, List.length_cons, List.length_nil, List.length_take, List.length_drop, Int.toNat_natCast] <;> omega))))
          | (refine fun R hR => eff_append (T := TT) rfl (own_c look_hd rfl) rfl rfl ?_ rfl rfl (adds_sl rfl ?_) ?_ rfl hR; (next => (first | exact .inl rfl | exact .inr ⟨_, rfl⟩)); (next => (first | exact rowsOne_byteA _ | (simp [RowsOne, AV.one, AV.rd, AV.cells, cst, Value.oneCell'] <;> omega))); (next => (first
            | omega
            | decide
            | (simp only [bsOf_mkB, byteA_length, List.length_append, List.length_cons, List.length_nil, List.length_take, List.length_drop, Int.toNat_natCast]; omega)
            | (simp [bsOf_mkB, byteA_length, List.length_append, List.length_cons, List.length_nil, List.length_take, List.length_drop, Int.toNat_natCast]; omega)
            | (simp [bsOf_mkB, byteA_length, List.length_append, List.length_cons, List.length_nil, List.length_take, List.length_drop, Int.toNat_natCast] <;> omega))))
          | (refine fun R hR => eff_append (T := TT) rfl (own_c (look_tl ?_ look_hd) rfl) rfl rfl ?_ rfl rfl (adds_str rfl) ?_ rfl hR; (next => (first | assumption | (intro e; exact absurd e.symm (by assumption)))); (next => (first | exact .inl rfl | exact .inr ⟨_, rfl⟩)); (next => (first
            | omega
            | decide
            | (simp only [bsOf_mkB, byteA_length, List.length_append, List.length_cons, List.length_nil, List.length_take, List.length_drop, Int.toNat_natCast]; omega)
            | (simp [bsOf_mkB, byteA_length, List.length_append, List.length_cons, List.length_nil, List.length_take, List.length_drop, Int.toNat_natCast]; omega)
            | (simp [bsOf_mkB, byteA_length, List.length_append, List.length_cons, List.length_nil, List.length_take, List.length_drop, Int.toNat_natCast] <;> omega))))
          | (refine fun R hR => eff_append (T := TT) rfl (own_c (look_tl ?_ look_hd) rfl) rfl rfl ?_ rfl rfl (adds_nil rfl) ?_ rfl hR; (next => (first | assumption | (intro e; exact absurd e.symm (by assumption)))); (next => (first | exact .inl rfl | exact .inr ⟨_, rfl⟩)); (next => (first
            | omega
            | decide
            | (simp only [bsOf_mkB, byteA_length, List.length_append, List.length_cons, List.length_nil, List.length_take, List.length_drop, Int.toNat_natCast]; omega)
            | (simp [bsOf_mkB, byteA_length, List.length_append, List.length_cons, List.length_nil, List.length_take, List.length_drop, Int.toNat_natCast]; omega)
            | (simp [bsOf_mkB, byteA_length, List.length_append, List.length_cons, List.length_nil, List.length_take, List.length_drop, Int.toNat_natCast] <;> omega))))
          | (refine fun R hR => eff_append (T := TT) rfl (own_c (look_tl ?_ look_hd) rfl) rfl rfl ?_ rfl rfl (adds_sl rfl ?_) ?_ rfl hR; (next => (first | assumption | (intro e; exact absurd e.symm (by assumption)))); (next => (first | exact .inl rfl | exact .inr ⟨_, rfl⟩)); (next => (first | exact rowsOne_byteA _ | (simp [RowsOne, AV.one, AV.rd, AV.cells, cst, Value.oneCell'] <;> omega))); (next => (first
            | omega
            | decide
            | (simp only [bsOf_mkB, byteA_length, List.length_append, List.length_cons, List.length_nil, List.length_take, List.length_drop, Int.toNat_natCast]; omega)
            | (simp [bsOf_mkB, byteA_length, List.length_append, List.length_cons, List.length_nil, List.length_take, List.length_drop, Int.toNat_natCast]; omega)
            | (simp [bsOf_mkB, byteA_length, List.length_append, List.length_cons, List.length_nil, List.length_take, List.length_drop, Int.toNat_natCast] <;> omega))))
          | (refine fun R hR => eff_append_nil (T := TT) rfl rfl rfl ?_ rfl rfl (adds_str rfl) ?_ rfl hR; (next => (first | exact .inl rfl | exact .inr ⟨_, rfl⟩)); (next => (first
            | omega
            | decide
            | (simp only [bsOf_mkB, byteA_length, List.length_append, List.length_cons, List.length_nil, List.length_take, List.length_drop, Int.toNat_natCast]; omega)
            | (simp [bsOf_mkB, byteA_length, List.length_append, List.length_cons, List.length_nil, List.length_take, List.length_drop, Int.toNat_natCast]; omega)
            | (simp [bsOf_mkB, byteA_length, List.length_append, List.length_cons, List.length_nil, List.length_take, List.length_drop, Int.toNat_natCast] <;> omega))))
          | (refine fun R hR => eff_append_nil (T := TT) rfl rfl rfl ?_ rfl rfl (adds_nil rfl) ?_ rfl hR; (next => (first | exact .inl rfl | exact .inr ⟨_, rfl⟩)); (next => (first
            | omega
            | decide
            | (simp only [bsOf_mkB, byteA_length, List.length_append, List.length_cons, List.length_nil, List.length_take, List.length_drop, Int.toNat_natCast]; omega)
            | (simp [bsOf_mkB, byteA_length, List.length_append, List.length_cons, List.length_nil, List.length_take, List.length_drop, Int.toNat_natCast]; omega)
            | (simp [bsOf_mkB, byteA_length, List.length_append, List.length_cons, List.length_nil, List.length_take, List.length_drop, Int.toNat_natCast] <;> omega))))
          | (refine fun R hR => eff_append_nil (T := TT) rfl rfl rfl ?_ rfl rfl (adds_sl rfl ?_) ?_ rfl hR; (next => (first | exact .inl rfl | exact .inr ⟨_, rfl⟩)); (next => (first | exact rowsOne_byteA _ | (simp [RowsOne, AV.one, AV.rd, AV.cells, cst, Value.oneCell'] <;> omega))); (next => (first
            | omega
            | decide
            | (simp only [bsOf_mkB, byteA_length, List.length_append, List.length_cons, List.length_nil, List.length_take, List.length_drop, Int.toNat_natCast]; omega)
            | (simp [bsOf_mkB, byteA_length, List.length_append, List.length_cons, List.length_nil, List.length_take, List.length_drop, Int.toNat_natCast]; omega)
            | (simp [bsOf_mkB, byteA_length, List.length_append, List.length_cons, List.length_nil, List.length_take, List.length_drop, Int.toNat_natCast] <;> omega))))
          | fail)
        | (apply effk ⟨_, .store _ _ _, _, _, _, _⟩; first
          | (apply effTo_store_own (T := TT) rfl rfl rfl; (next => (first | rfl | exact look_hd | exact look_tl (by assumption) look_hd | exact look_tl (fun e => absurd e.symm (by assumption)) look_hd)); (next => rfl); (next => rfl); (next => rfl))
          | (refine fun R hR => eff_store (T := TT) rfl look_hd rfl rfl rfl rfl rfl ?_ rfl hR; (next => (simp [Plain1, own1, AV.cells, AV.rd] <;> omega)))
          | (refine fun R hR => eff_store (T := TT) rfl (look_tl ?_ look_hd) rfl rfl rfl rfl rfl ?_ rfl hR; (next => (first | assumption | (intro e; exact absurd e.symm (by assumption)))); (next => (simp [Plain1, own1, AV.cells, AV.rd] <;> omega)))
          | (refine fun R hR => eff_store (T := TT) rfl (look_tl ?_ (look_tl ?_ look_hd)) rfl rfl rfl rfl rfl ?_ rfl hR; (next => (first | assumption | (intro e; exact absurd e.symm (by assumption)))); (next => (first | assumption | (intro e; exact absurd e.symm (by assumption)))); (next => (simp [Plain1, own1, AV.cells, AV.rd] <;> omega)))
          | fail)
        | (apply effk ⟨_, .mapUpdate _ _ _ _, _, _, _, _⟩; first
          | refine fun R hR => eff_mapset_s (T := TT) rfl look_hd rfl rfl rfl rfl hR
          | (refine fun R hR => eff_mapset_s (T := TT) rfl (look_tl ?_ look_hd) rfl rfl rfl rfl hR; (next => (first | assumption | (intro e; exact absurd e.symm (by assumption)))))
          | (refine fun R hR => eff_mapset_s (T := TT) rfl (look_tl ?_ (look_tl ?_ look_hd)) rfl rfl rfl rfl hR; (next => (first | assumption | (intro e; exact absurd e.symm (by assumption)))); (next => (first | assumption | (intro e; exact absurd e.symm (by assumption)))))
          | fail)
        | fail)
    ) : EffOp Try.prog o σ R := h R hR
theorem ar_endD (K : List Nat) (hn : ARun Try.prog Q ks σ') (hk : k = l.length := by rfl) (hs : σ.keep K = σ' := by
    (first
        | (simp only [AS.keep, AS.save, keepT, AS.put, AS.mv, AS.free, AS.hand, AS.alias, AS.lay, AS.dropC, AS.box, AS.setc, splice, rootOf, firstAl, AS.own, own1, look_cons, look_nil, AV.rd, cst, List.filter_cons, List.filter_nil, List.filterMap_cons, List.filterMap_nil, Root.in, Root.keepB, List.contains_cons, List.contains_nil, List.elem_eq_contains, Nat.reduceBEq, Nat.reduceEqDiff, Nat.beq_eq_true_eq, Bool.and_true, Bool.true_and, Bool.false_and, Bool.and_false, Bool.or_true, Bool.or_false, Bool.true_or, Bool.false_or, Bool.not_true, Bool.not_false, Bool.false_eq_true, if_true, if_false, reduceIte, ite_true, ite_false, beq_self_eq_true, callSt, layAll, List.nil_append, List.cons_append, List.map_cons, List.map_nil, AV.cells, reduceCtorEq, String.reduceEq, List.take_succ_cons, List.take_zero, List.drop_succ_cons, List.drop_zero, List.length_cons, List.length_nil, Nat.zero_add, Nat.reduceAdd, List.take_nil, List.drop_nil, List.append_nil, List.getElem?_cons_zero, List.getElem?_cons_succ, List.set_cons_zero, List.set_cons_succ, Value.cells, bsOf_mkB, bsOf_list, bsOf_arr, bsOf_nil, Int.toNat_natCast, Int.toNat_zero, Int.reduceToNat, List.take_length, List.drop_length, List.take_take, Nat.min_self, decide_true, decide_false, List.length_append, byteA_length, List.getElem_toArray, List.getElem_cons_zero, List.getElem_cons_succ, Nat.add_zero, List.getD_cons_zero]; exact rfl)
        | exact rfl)
    ) : ARun Try.prog Q (.o l k [] :: ks) σ := ar_endK K hk (hs ▸ hn)
theorem ar_retD (K : List Nat) (hn : Stk Try.prog Q ks .ret σ') (hs : σ.keep K = σ' := by
    (first
        | (simp only [AS.keep, AS.save, keepT, AS.put, AS.mv, AS.free, AS.hand, AS.alias, AS.lay, AS.dropC, AS.box, AS.setc, splice, rootOf, firstAl, AS.own, own1, look_cons, look_nil, AV.rd, cst, List.filter_cons, List.filter_nil, List.filterMap_cons, List.filterMap_nil, Root.in, Root.keepB, List.contains_cons, List.contains_nil, List.elem_eq_contains, Nat.reduceBEq, Nat.reduceEqDiff, Nat.beq_eq_true_eq, Bool.and_true, Bool.true_and, Bool.false_and, Bool.and_false, Bool.or_true, Bool.or_false, Bool.true_or, Bool.false_or, Bool.not_true, Bool.not_false, Bool.false_eq_true, if_true, if_false, reduceIte, ite_true, ite_false, beq_self_eq_true, callSt, layAll, List.nil_append, List.cons_append, List.map_cons, List.map_nil, AV.cells, reduceCtorEq, String.reduceEq, List.take_succ_cons, List.take_zero, List.drop_succ_cons, List.drop_zero, List.length_cons, List.length_nil, Nat.zero_add, Nat.reduceAdd, List.take_nil, List.drop_nil, List.append_nil, List.getElem?_cons_zero, List.getElem?_cons_succ, List.set_cons_zero, List.set_cons_succ, Value.cells, bsOf_mkB, bsOf_list, bsOf_arr, bsOf_nil, Int.toNat_natCast, Int.toNat_zero, Int.reduceToNat, List.take_length, List.drop_length, List.take_take, Nat.min_self, decide_true, decide_false, List.length_append, byteA_length, List.getElem_toArray, List.getElem_cons_zero, List.getElem_cons_succ, Nat.add_zero, List.getD_cons_zero]; exact rfl)
        | exact rfl)
    ) : ARun Try.prog Q (.c .ret :: ks) σ := ar_retK K (hs ▸ hn)
theorem ar_retD0 (K : List Nat) (hn : Stk Try.prog Q ks .ret ⟨σ'.n, σ'.t, [], []⟩) (hs : σ.keep K = σ' := by
    (first
        | (simp only [AS.keep, AS.save, keepT, AS.put, AS.mv, AS.free, AS.hand, AS.alias, AS.lay, AS.dropC, AS.box, AS.setc, splice, rootOf, firstAl, AS.own, own1, look_cons, look_nil, AV.rd, cst, List.filter_cons, List.filter_nil, List.filterMap_cons, List.filterMap_nil, Root.in, Root.keepB, List.contains_cons, List.contains_nil, List.elem_eq_contains, Nat.reduceBEq, Nat.reduceEqDiff, Nat.beq_eq_true_eq, Bool.and_true, Bool.true_and, Bool.false_and, Bool.and_false, Bool.or_true, Bool.or_false, Bool.true_or, Bool.false_or, Bool.not_true, Bool.not_false, Bool.false_eq_true, if_true, if_false, reduceIte, ite_true, ite_false, beq_self_eq_true, callSt, layAll, List.nil_append, List.cons_append, List.map_cons, List.map_nil, AV.cells, reduceCtorEq, String.reduceEq, List.take_succ_cons, List.take_zero, List.drop_succ_cons, List.drop_zero, List.length_cons, List.length_nil, Nat.zero_add, Nat.reduceAdd, List.take_nil, List.drop_nil, List.append_nil, List.getElem?_cons_zero, List.getElem?_cons_succ, List.set_cons_zero, List.set_cons_succ, Value.cells, bsOf_mkB, bsOf_list, bsOf_arr, bsOf_nil, Int.toNat_natCast, Int.toNat_zero, Int.reduceToNat, List.take_length, List.drop_length, List.take_take, Nat.min_self, decide_true, decide_false, List.length_append, byteA_length, List.getElem_toArray, List.getElem_cons_zero, List.getElem_cons_succ, Nat.add_zero, List.getD_cons_zero]; exact rfl)
        | exact rfl)
    ) : ARun Try.prog Q (.c .ret :: ks) σ := ar_retK0 K (hs ▸ hn)
theorem ar_normD (hn : ARun Try.prog Q ks σ') (hs : σ = σ' := by
    (first
        | (simp only [AS.keep, AS.save, keepT, AS.put, AS.mv, AS.free, AS.hand, AS.alias, AS.lay, AS.dropC, AS.box, AS.setc, splice, rootOf, firstAl, AS.own, own1, look_cons, look_nil, AV.rd, cst, List.filter_cons, List.filter_nil, List.filterMap_cons, List.filterMap_nil, Root.in, Root.keepB, List.contains_cons, List.contains_nil, List.elem_eq_contains, Nat.reduceBEq, Nat.reduceEqDiff, Nat.beq_eq_true_eq, Bool.and_true, Bool.true_and, Bool.false_and, Bool.and_false, Bool.or_true, Bool.or_false, Bool.true_or, Bool.false_or, Bool.not_true, Bool.not_false, Bool.false_eq_true, if_true, if_false, reduceIte, ite_true, ite_false, beq_self_eq_true, callSt, layAll, List.nil_append, List.cons_append, List.map_cons, List.map_nil, AV.cells, reduceCtorEq, String.reduceEq, List.take_succ_cons, List.take_zero, List.drop_succ_cons, List.drop_zero, List.length_cons, List.length_nil, Nat.zero_add, Nat.reduceAdd, List.take_nil, List.drop_nil, List.append_nil, List.getElem?_cons_zero, List.getElem?_cons_succ, List.set_cons_zero, List.set_cons_succ, Value.cells, bsOf_mkB, bsOf_list, bsOf_arr, bsOf_nil, Int.toNat_natCast, Int.toNat_zero, Int.reduceToNat, List.take_length, List.drop_length, List.take_take, Nat.min_self, decide_true, decide_false, List.length_append, byteA_length, List.getElem_toArray, List.getElem_cons_zero, List.getElem_cons_succ, Nat.add_zero, List.getD_cons_zero]; exact rfl)
        | exact rfl)
    ) : ARun Try.prog Q ks σ := hs ▸ hn
theorem eff_normA {R : AS → Prop} (hn : EffOp Try.prog o σ' R) (hs : σ = σ' := by
    (try simp only [AppIn.r])
    (first
        | (simp only [AS.keep, AS.save, keepT, AS.put, AS.mv, AS.free, AS.hand, AS.alias, AS.lay, AS.dropC, AS.box, AS.setc, splice, rootOf, firstAl, AS.own, own1, look_cons, look_nil, AV.rd, cst, List.filter_cons, List.filter_nil, List.filterMap_cons, List.filterMap_nil, Root.in, Root.keepB, List.contains_cons, List.contains_nil, List.elem_eq_contains, Nat.reduceBEq, Nat.reduceEqDiff, Nat.beq_eq_true_eq, Bool.and_true, Bool.true_and, Bool.false_and, Bool.and_false, Bool.or_true, Bool.or_false, Bool.true_or, Bool.false_or, Bool.not_true, Bool.not_false, Bool.false_eq_true, if_true, if_false, reduceIte, ite_true, ite_false, beq_self_eq_true, callSt, layAll, List.nil_append, List.cons_append, List.map_cons, List.map_nil, AV.cells, reduceCtorEq, String.reduceEq, List.take_succ_cons, List.take_zero, List.drop_succ_cons, List.drop_zero, List.length_cons, List.length_nil, Nat.zero_add, Nat.reduceAdd, List.take_nil, List.drop_nil, List.append_nil, List.getElem?_cons_zero, List.getElem?_cons_succ, List.set_cons_zero, List.set_cons_succ, Value.cells, bsOf_mkB, bsOf_list, bsOf_arr, bsOf_nil, Int.toNat_natCast, Int.toNat_zero, Int.reduceToNat, List.take_length, List.drop_length, List.take_take, Nat.min_self, decide_true, decide_false, List.length_append, byteA_length, List.getElem_toArray, List.getElem_cons_zero, List.getElem_cons_succ, Nat.add_zero, List.getD_cons_zero]; exact rfl)
        | exact rfl)
    ) : EffOp Try.prog o σ R := hs ▸ hn
theorem ar_condT {t : Nat} {b : Bool} {x y : Code} (hc : look σ.t t = some (.v (.bool b))) (hn : ARun Try.prog Q (.c x :: ks) σ) (hb : b = true := by
    first | rfl | (simp only [decide_eq_true_eq, beq_iff_eq, bne_iff_ne, ge_iff_le, gt_iff_lt, ne_eq, Bool.not_eq_true', decide_eq_false_iff_not]; omega)
    ) : ARun Try.prog Q (.c (.cond (.tmp t) x y) :: ks) σ := ar_cond_true hc hb hn
theorem ar_condF {t : Nat} {b : Bool} {x y : Code} (hc : look σ.t t = some (.v (.bool b))) (hn : ARun Try.prog Q (.c y :: ks) σ) (hb : b = false := by
    first | rfl | (simp only [decide_eq_false_iff_not, beq_eq_false_iff_ne, bne_eq_false_iff_eq, ge_iff_le, gt_iff_lt, ne_eq, Bool.not_eq_false', decide_eq_true_eq]; omega)
    ) : ARun Try.prog Q (.c (.cond (.tmp t) x y) :: ks) σ := ar_cond_false hc hb hn
theorem ar_callDH {fop : Op} (hop : fop = .call { callee := .value (.func f), args := xs, argTypes := ats }) (hc : ACalls Try.prog f us σ.h post) (hR : ∀ out H', post out H' → ∃ u, out = .ret u ∧ ARun Try.prog Q (.o l (k + 1) rest :: ks) ((callSt σ ρs [] H').put d u))
    (ho : l[k]? = some ⟨some d, fop, ty, pos, af, g⟩ := by rfl) (hw : wantedA l σ ⟨some d, fop, ty, pos, af, g⟩ = some true := by rfl) (ha : PArgs σ xs.toList us ρs := by
    (repeat (first | exact PArgs.nil | (apply PArgs.cons; (next => (first | exact PArg.own rfl rfl | exact PArg.rd rfl (Le1.refl _) rfl | exact PArg.rd rfl (Le1.rd _ _ _) rfl | exact PArg.nil rfl | (refine PArg.rd rfl (Le1.of_eq ?_) rfl; congr 2 <;> (first | omega | (simp; omega))))))))
    ) (h1 : oneSome ρs = true := by rfl) (h2 : slotsOnly ρs = true := by rfl) (hd : Nat.ble (d + 1) σ.n = true := by rfl) : ARun Try.prog Q (.o l k (⟨some d, fop, ty, pos, af, g⟩ :: rest) :: ks) σ := ar_callH hop hc ho hw ha h1 h2 hd hR
theorem ar_callD0 {fop : Op} (hop : fop = .call { callee := .value (.func f), args := xs, argTypes := ats }) (hc : ACalls Try.prog f us [] post) (hR : ∀ out H', post out H' → ∃ u, out = .ret u ∧ ARun Try.prog Q (.o l (k + 1) rest :: ks) ((callSt σ ρs (layAll ρs σ).h H').put d u))
    (ho : l[k]? = some ⟨some d, fop, ty, pos, af, g⟩ := by rfl) (hw : wantedA l σ ⟨some d, fop, ty, pos, af, g⟩ = some true := by rfl) (ha : PArgs σ xs.toList us ρs := by
    (repeat (first | exact PArgs.nil | (apply PArgs.cons; (next => (first | exact PArg.own rfl rfl | exact PArg.rd rfl (Le1.refl _) rfl | exact PArg.rd rfl (Le1.rd _ _ _) rfl | exact PArg.nil rfl | (refine PArg.rd rfl (Le1.of_eq ?_) rfl; congr 2 <;> (first | omega | (simp; omega))))))))
    ) (h1 : oneSome ρs = true := by rfl) (hd : Nat.ble (d + 1) σ.n = true := by rfl) : ARun Try.prog Q (.o l k (⟨some d, fop, ty, pos, af, g⟩ :: rest) :: ks) σ := ar_call0 hop hc ho hw ha h1 hd hR
theorem ar_callDF {caps : List AV} {s : Nat} {fop : Op} (hop : fop = .call { callee := .value (.tmp s), args := xs, argTypes := ats }) (hc : ACalls Try.prog f (us ++ caps) σ.h post) (hR : ∀ out H', post out H' → ∃ u, out = .ret u ∧ ARun Try.prog Q (.o l (k + 1) rest :: ks) ((callSt σ ρs [] H').put d u)) (hfn : look σ.t s = some (.fn f caps) := by rfl)
    (ho : l[k]? = some ⟨some d, fop, ty, pos, af, g⟩ := by rfl) (hw : wantedA l σ ⟨some d, fop, ty, pos, af, g⟩ = some true := by rfl) (ha : PArgs σ xs.toList us ρs := by
    (repeat (first | exact PArgs.nil | (apply PArgs.cons; (next => (first | exact PArg.own rfl rfl | exact PArg.rd rfl (Le1.refl _) rfl | exact PArg.rd rfl (Le1.rd _ _ _) rfl | exact PArg.nil rfl | (refine PArg.rd rfl (Le1.of_eq ?_) rfl; congr 2 <;> (first | omega | (simp; omega))))))))
    ) (hcap : caps.all (fun u => (own1 (some u)).isNone) = true := by rfl) (h1 : oneSome ρs = true := by rfl) (h2 : slotsOnly ρs = true := by rfl) (hd : Nat.ble (d + 1) σ.n = true := by rfl) : ARun Try.prog Q (.o l k (⟨some d, fop, ty, pos, af, g⟩ :: rest) :: ks) σ := ar_callfnH hop hfn hc ho hw ha hcap h1 h2 hd hR
end
end Go.Proofs.Ytophpbihcfdkcaa
