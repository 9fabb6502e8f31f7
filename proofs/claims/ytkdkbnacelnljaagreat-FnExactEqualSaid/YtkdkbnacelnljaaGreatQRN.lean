/- How the abstract memory is evaluated. Conditions: those that a theorem names. -/
import Derived.Test.YtkdkbnacelnljaaGreatQRR
set_option linter.unusedVariables false
set_option linter.unusedSimpArgs false
namespace Go.Proofs.YtkdkbnacelnljaaGreat.RE
open Go Go.RowKit
attribute [go_sem] mkmF lookF mupF regF_nil regF_none regF_some grdT_some grdA_tt grdA_ff grdA_tf grdA_ft grdA_u uA opF fin putT rd ofV pickF allocF boxF newF buildF bslF loadF partF dpartF storeF spl faF iaF lenF nilF binF unF convF mkfF mksF slF bndF fF ixF exF appF srcF mmF cpyF callF cmpB ariB eqC eq1 fillF plcF rowOf AV.cells LV.cell Value.oneCell' TyI.agg LV.ofD TV.up List.getD_cons_zero List.getD_cons_succ List.getD_nil List.set_cons_zero List.set_cons_succ List.map_cons List.map_nil List.getElem?_cons_zero List.getElem?_cons_succ List.length_cons List.length_nil List.cons_append List.nil_append List.append_nil List.take_succ_cons List.take_zero List.drop_succ_cons List.drop_zero List.take_nil List.drop_nil Option.map_some Option.map_none Option.getD_some if_true if_false Bool.false_eq_true true_and and_true Nat.zero_add Nat.add_zero Nat.zero_le false_implies true_implies forall_const ne_eq not_false_eq_true not_true_eq_false List.replicate_zero List.replicate_succ List.flatten_cons List.flatten_nil Bool.true_eq_false planF keepD sameD readsIn inD readOp thn inB
end Go.Proofs.YtkdkbnacelnljaaGreat.RE
