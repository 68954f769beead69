/-
  NARROWER THAN 'FOR EVERY INPUT', by the rows' own cells (each row's printed sentence says how): FloTexts: laid · TowerTexts: laid.
  DERIVED. THE GIVEN ROWS OF THIS SEAT. 2 by the template 'for every input the law returns true; each argument reads behind the call as it read before'; 0 by the template 'total and deterministic' (their statements: YtcjkgnafpkkjmaaGreatDoorTotals.lean).
  GIVEN WITH THE SEED: the statements are not yours to turn. If you find one false, say at which input.
  Laid BY PROGRAM, IN A SANDBOX (cutbox-rows.mjs): the forced cells as the released guide's own fill.sh prints them over the translation 71cfcff7ecd259f4… (all of the seat's roots in one cut). By AI agents, Wed Nov 11 2026. No macro, syntax, notation, axiom, sorry.
-/
import Derived.Test.YtcjkgnafpkkjmaaGreatDoorChecked
import GoSem.PinnedTables
import GoSem.Claim
import GoSem.ClaimJoined
import GoSem.ClaimMapViews
import Derived.JoinedTies
import Derived.KernelRfl
namespace Go.Proofs.YtcjkgnafpkkjmaaGreatDoor
/- THE CELL 'sum', in the pinned program and in every row, IS THE sha256 OF THE DUMP (.gsa) THAT YtcjkgnafpkkjmaaGreatDoorProg.lean LOADS. Nothing in Lean hashes anything: it is a label: what it is worth is what the hold of that sum in a sandbox is worth. -/
noncomputable def Tryz.pinned : Pinned := { name := "ytcjkgnafpkkjmaagreatdoor", sum := "71cfcff7ecd259f47edafd2ed12d2927c31c10db3c4877d9bd2d0b6c7876e42a", checked := Tryz.checked }
namespace Rows
def none {H : Type} : Left H := { results := [], args := [] }

/- WHAT THE LISTED PACKAGE-LEVEL VARIABLES READ AS WHEN THE CALL BEGINS. Each datum BY PROGRAM (the guide's laid-datum.mjs) off the statement by which the dump's own 'gosem.cut.vars' lays the variable. In a bare row this is a premise. The card (YtcjkgnafpkkjmaaGreatDoorCards.lean) ties it to the program's text. -/
def laid_math_bits_deBruijn32tab {H : Type} : DataW H := .agg [.lit (.int .u8 0), .lit (.int .u8 1), .lit (.int .u8 28), .lit (.int .u8 2), .lit (.int .u8 29), .lit (.int .u8 14), .lit (.int .u8 24), .lit (.int .u8 3), .lit (.int .u8 30), .lit (.int .u8 22), .lit (.int .u8 20), .lit (.int .u8 15), .lit (.int .u8 25), .lit (.int .u8 17), .lit (.int .u8 4), .lit (.int .u8 8), .lit (.int .u8 31), .lit (.int .u8 27), .lit (.int .u8 13), .lit (.int .u8 23), .lit (.int .u8 21), .lit (.int .u8 19), .lit (.int .u8 16), .lit (.int .u8 7), .lit (.int .u8 26), .lit (.int .u8 12), .lit (.int .u8 18), .lit (.int .u8 6), .lit (.int .u8 11), .lit (.int .u8 5), .lit (.int .u8 10), .lit (.int .u8 9)]
def laid_math_bits_deBruijn64tab {H : Type} : DataW H := .agg [.lit (.int .u8 0), .lit (.int .u8 1), .lit (.int .u8 56), .lit (.int .u8 2), .lit (.int .u8 57), .lit (.int .u8 49), .lit (.int .u8 28), .lit (.int .u8 3), .lit (.int .u8 61), .lit (.int .u8 58), .lit (.int .u8 42), .lit (.int .u8 50), .lit (.int .u8 38), .lit (.int .u8 29), .lit (.int .u8 17), .lit (.int .u8 4), .lit (.int .u8 62), .lit (.int .u8 47), .lit (.int .u8 59), .lit (.int .u8 36), .lit (.int .u8 45), .lit (.int .u8 43), .lit (.int .u8 51), .lit (.int .u8 22), .lit (.int .u8 53), .lit (.int .u8 39), .lit (.int .u8 33), .lit (.int .u8 30), .lit (.int .u8 24), .lit (.int .u8 18), .lit (.int .u8 12), .lit (.int .u8 5), .lit (.int .u8 63), .lit (.int .u8 55), .lit (.int .u8 48), .lit (.int .u8 27), .lit (.int .u8 60), .lit (.int .u8 41), .lit (.int .u8 37), .lit (.int .u8 16), .lit (.int .u8 46), .lit (.int .u8 35), .lit (.int .u8 44), .lit (.int .u8 21), .lit (.int .u8 52), .lit (.int .u8 32), .lit (.int .u8 23), .lit (.int .u8 11), .lit (.int .u8 54), .lit (.int .u8 26), .lit (.int .u8 40), .lit (.int .u8 15), .lit (.int .u8 34), .lit (.int .u8 20), .lit (.int .u8 31), .lit (.int .u8 10), .lit (.int .u8 25), .lit (.int .u8 14), .lit (.int .u8 19), .lit (.int .u8 9), .lit (.int .u8 13), .lit (.int .u8 8), .lit (.int .u8 7), .lit (.int .u8 6)]
def laid_internal_strconv_float32info {H : Type} : DataW H := .agg [.lit (.int .u64 23), .lit (.int .u64 8), .lit (.int .i64 (-127))]
def laid_internal_strconv_float64info {H : Type} : DataW H := .agg [.lit (.int .u64 52), .lit (.int .u64 11), .lit (.int .i64 (-1023))]
def laid_internal_strconv_optimize {H : Type} : DataW H := .lit (.bool true)
def laid_internal_strconv_powtab {H : Type} : DataW H := .slice [.lit (.int .i64 1), .lit (.int .i64 3), .lit (.int .i64 6), .lit (.int .i64 9), .lit (.int .i64 13), .lit (.int .i64 16), .lit (.int .i64 19), .lit (.int .i64 23), .lit (.int .i64 26)] []
def laid_internal_strconv_float64pow10 {H : Type} : DataW H := .slice [.lit (.float .f64 4607182418800017408), .lit (.float .f64 4621819117588971520), .lit (.float .f64 4636737291354636288), .lit (.float .f64 4652007308841189376), .lit (.float .f64 4666723172467343360), .lit (.float .f64 4681608360884174848), .lit (.float .f64 4696837146684686336), .lit (.float .f64 4711630319722168320), .lit (.float .f64 4726483295884279808), .lit (.float .f64 4741671816366391296), .lit (.float .f64 4756540486875873280), .lit (.float .f64 4771362005757984768), .lit (.float .f64 4786511204640096256), .lit (.float .f64 4801453603149578240), .lit (.float .f64 4816244402031689728), .lit (.float .f64 4831355200913801216), .lit (.float .f64 4846369599423283200), .lit (.float .f64 4861130398305394688), .lit (.float .f64 4876203697187506176), .lit (.float .f64 4891288408196988160), .lit (.float .f64 4906019910204099648), .lit (.float .f64 4921056587992461136), .lit (.float .f64 4936209963552724370)] []
def laid_internal_strconv_float32pow10 {H : Type} : DataW H := .slice [.lit (.float .f32 1065353216), .lit (.float .f32 1092616192), .lit (.float .f32 1120403456), .lit (.float .f32 1148846080), .lit (.float .f32 1176256512), .lit (.float .f32 1203982336), .lit (.float .f32 1232348160), .lit (.float .f32 1259902592), .lit (.float .f32 1287568416), .lit (.float .f32 1315859240), .lit (.float .f32 1343554297)] []
def laid_internal_strconv_uint64pow10 {H : Type} : DataW H := .agg [.lit (.int .u64 1), .lit (.int .u64 10), .lit (.int .u64 100), .lit (.int .u64 1000), .lit (.int .u64 10000), .lit (.int .u64 100000), .lit (.int .u64 1000000), .lit (.int .u64 10000000), .lit (.int .u64 100000000), .lit (.int .u64 1000000000), .lit (.int .u64 10000000000), .lit (.int .u64 100000000000), .lit (.int .u64 1000000000000), .lit (.int .u64 10000000000000), .lit (.int .u64 100000000000000), .lit (.int .u64 1000000000000000), .lit (.int .u64 10000000000000000), .lit (.int .u64 100000000000000000), .lit (.int .u64 1000000000000000000), .lit (.int .u64 10000000000000000000)]
def laid_strconv_ErrRange {H : Type} : DataW H := .iface "*errors.errorString" (.ptr (.agg [.lit (.string [118, 97, 108, 117, 101, 32, 111, 117, 116, 32, 111, 102, 32, 114, 97, 110, 103, 101])]))
def laid_strconv_ErrSyntax {H : Type} : DataW H := .iface "*errors.errorString" (.ptr (.agg [.lit (.string [105, 110, 118, 97, 108, 105, 100, 32, 115, 121, 110, 116, 97, 120])]))
/-- One of Go's own tables, pinned by name: the form's constant. -/
def laid_internal_strconv_leftcheats : DataW Unit := Go.Pinned.leftcheats
/-- One of Go's own tables, pinned by name: the form's constant. -/
def laid_internal_strconv_pow10Tab : DataW Unit := Go.Pinned.pow10Tab

/-- 'distafflaw03.FloTexts': WHATEVER THE INPUT: true; the input reads as it did. -/
def floTextsSpec : ChangeSpec := { name := "floTexts", fn := fun _ => fun
  | [d1, d2] => { results := [.lit (.bool true)], args := [d1, d2] }
  | _ => none }
def floTextsRow : OpenClaim := { program := "ytcjkgnafpkkjmaagreatdoor", sum := "71cfcff7ecd259f47edafd2ed12d2927c31c10db3c4877d9bd2d0b6c7876e42a", func := "distaff/distafflaw03.FloTexts", spec := "floTexts", inPlace := ["math.Float64frombits", "internal/strconv.float64frombits", "internal/strconv.float32frombits", "math.archTrunc", "math.Float64bits", "internal/strconv.float32bits", "internal/strconv.float64bits", "internal/bytealg.IndexByteString", "internal/bytealg.IndexString"], named := ["internal/strconv.float32info", "internal/strconv.optimize", "internal/strconv.float32pow10", "internal/strconv.pow10Tab", "internal/strconv.powtab", "internal/strconv.leftcheats", "internal/strconv.float64info", "internal/strconv.float64pow10", "strconv.ErrSyntax", "strconv.ErrRange", "internal/strconv.uint64pow10", "math/bits.deBruijn32tab", "math/bits.deBruijn64tab", "internal/bytealg.MaxLen"], apart := false, laid := [("math/bits.deBruijn32tab", laid_math_bits_deBruijn32tab), ("math/bits.deBruijn64tab", laid_math_bits_deBruijn64tab), ("internal/strconv.float32info", laid_internal_strconv_float32info), ("internal/strconv.float64info", laid_internal_strconv_float64info), ("internal/strconv.optimize", laid_internal_strconv_optimize), ("internal/strconv.powtab", laid_internal_strconv_powtab), ("internal/strconv.float64pow10", laid_internal_strconv_float64pow10), ("internal/strconv.float32pow10", laid_internal_strconv_float32pow10), ("internal/strconv.uint64pow10", laid_internal_strconv_uint64pow10), ("strconv.ErrRange", laid_strconv_ErrRange), ("strconv.ErrSyntax", laid_strconv_ErrSyntax), ("internal/strconv.leftcheats", laid_internal_strconv_leftcheats), ("internal/strconv.pow10Tab", laid_internal_strconv_pow10Tab)] }
def FloTextsSaid : Prop := floTextsRow.holds Tryz.pinned (OpenSpec.ofChange floTextsSpec)

/-- ITS FALSE NEIGHBOUR: 'it returns false'. Refute it at one input. -/
def floTextsWrong : ChangeSpec := { name := "floTexts", fn := fun _ => fun
  | [d1, d2] => { results := [.lit (.bool false)], args := [d1, d2] }
  | _ => none }
def FloTextsWrongFalsely : Prop := floTextsRow.holds Tryz.pinned (OpenSpec.ofChange floTextsWrong)

/-- 'distafflaw04.TowerTexts': WHATEVER THE INPUT: true; the input reads as it did. -/
def towerTextsSpec : ChangeSpec := { name := "towerTexts", fn := fun _ => fun
  | [d1, d2] => { results := [.lit (.bool true)], args := [d1, d2] }
  | _ => none }
def towerTextsRow : OpenClaim := { program := "ytcjkgnafpkkjmaagreatdoor", sum := "71cfcff7ecd259f47edafd2ed12d2927c31c10db3c4877d9bd2d0b6c7876e42a", func := "distaff/distafflaw04.TowerTexts", spec := "towerTexts", inPlace := ["math.Float64bits", "math.Float64frombits", "math.archFloor", "math.archTrunc", "internal/strconv.float32bits", "internal/strconv.float64bits", "internal/bytealg.IndexByteString", "internal/bytealg.IndexString", "internal/abi.NoEscape", "internal/bytealg.MakeNoZero", "internal/strconv.float64frombits", "internal/strconv.float32frombits"], unfollowed := true, recurses := true, named := ["internal/strconv.optimize", "internal/strconv.uint64pow10", "math/bits.deBruijn32tab", "math/bits.deBruijn64tab", "internal/strconv.pow10Tab", "internal/strconv.leftcheats", "internal/bytealg.MaxLen", "strconv.ErrSyntax", "strconv.ErrRange", "internal/strconv.float32info", "internal/strconv.float32pow10", "internal/strconv.powtab", "internal/strconv.float64info", "internal/strconv.float64pow10"], apart := false, laid := [("math/bits.deBruijn32tab", laid_math_bits_deBruijn32tab), ("math/bits.deBruijn64tab", laid_math_bits_deBruijn64tab), ("internal/strconv.float32info", laid_internal_strconv_float32info), ("internal/strconv.float64info", laid_internal_strconv_float64info), ("internal/strconv.optimize", laid_internal_strconv_optimize), ("internal/strconv.powtab", laid_internal_strconv_powtab), ("internal/strconv.float64pow10", laid_internal_strconv_float64pow10), ("internal/strconv.float32pow10", laid_internal_strconv_float32pow10), ("internal/strconv.uint64pow10", laid_internal_strconv_uint64pow10), ("strconv.ErrRange", laid_strconv_ErrRange), ("strconv.ErrSyntax", laid_strconv_ErrSyntax), ("internal/strconv.leftcheats", laid_internal_strconv_leftcheats), ("internal/strconv.pow10Tab", laid_internal_strconv_pow10Tab)] }
def TowerTextsSaid : Prop := towerTextsRow.holds Tryz.pinned (OpenSpec.ofChange towerTextsSpec)

/-- ITS FALSE NEIGHBOUR: 'it returns false'. Refute it at one input. -/
def towerTextsWrong : ChangeSpec := { name := "towerTexts", fn := fun _ => fun
  | [d1, d2] => { results := [.lit (.bool false)], args := [d1, d2] }
  | _ => none }
def TowerTextsWrongFalsely : Prop := towerTextsRow.holds Tryz.pinned (OpenSpec.ofChange towerTextsWrong)

/- THE SECOND FORM. 'bulk': how many values and letters a reading holds, each counted each time it is reached (what is shared counts as often as it is met; a slice's spare places count too). A statement '..UptoSaid' is the law's where the arguments, and the package variables that the reading takes, are together of bulk at most 1048576: NARROWER than '..Said'. Prove '..Said' where nothing that the law and all that it calls make is longer than what came in: it says more and counts as full. Else prove '..UptoSaid'. A law counts once. -/
mutual
def uptoBulk {H : Type} : DataW H → Nat
  | .lit (.string bytes) => bytes.length + 1
  | .lit _ => 1
  | .nil => 1
  | .ptr d => uptoBulk d + 1
  | .slice elems spare => uptoBulkAll elems + uptoBulkAll spare + 1
  | .agg parts => uptoBulkAll parts + 1
  | .iface _ d => uptoBulk d + 1
  | .map entries => uptoBulkEntries entries + 1
  | .held _ => 1
def uptoBulkAll {H : Type} : List (DataW H) → Nat
  | [] => 0
  | d :: r => uptoBulk d + uptoBulkAll r
def uptoBulkEntries {H : Type} : List (Lit × DataW H) → Nat
  | [] => 0
  | x :: r => uptoBulkEntry x + uptoBulkEntries r
def uptoBulkEntry {H : Type} : Lit × DataW H → Nat
  | (.string bytes, d) => bytes.length + uptoBulk d + 1
  | (_, d) => uptoBulk d + 1
 end
def uptoSmall : (H : Type) → List (DataW H) → Bool := fun _ ds => decide (uptoBulkAll ds ≤ 1048576)
def OpenSpec.upto (s : _root_.Go.ChangeSpec) : _root_.Go.OpenSpec := { _root_.Go.OpenSpec.ofChange s with cond := some uptoSmall }

/-- 'distafflaw03.FloTexts', WHERE WHAT IT READS IS OF BULK AT MOST 1048576: true; the input reads as it did. -/
def floTextsUptoRow : OpenClaim := { program := "ytcjkgnafpkkjmaagreatdoor", sum := "71cfcff7ecd259f47edafd2ed12d2927c31c10db3c4877d9bd2d0b6c7876e42a", func := "distaff/distafflaw03.FloTexts", spec := "floTexts", inPlace := ["math.Float64frombits", "internal/strconv.float64frombits", "internal/strconv.float32frombits", "math.archTrunc", "math.Float64bits", "internal/strconv.float32bits", "internal/strconv.float64bits", "internal/bytealg.IndexByteString", "internal/bytealg.IndexString"], named := ["internal/strconv.float32info", "internal/strconv.optimize", "internal/strconv.float32pow10", "internal/strconv.pow10Tab", "internal/strconv.powtab", "internal/strconv.leftcheats", "internal/strconv.float64info", "internal/strconv.float64pow10", "strconv.ErrSyntax", "strconv.ErrRange", "internal/strconv.uint64pow10", "math/bits.deBruijn32tab", "math/bits.deBruijn64tab", "internal/bytealg.MaxLen"], apart := false, laid := [("math/bits.deBruijn32tab", laid_math_bits_deBruijn32tab), ("math/bits.deBruijn64tab", laid_math_bits_deBruijn64tab), ("internal/strconv.float32info", laid_internal_strconv_float32info), ("internal/strconv.float64info", laid_internal_strconv_float64info), ("internal/strconv.optimize", laid_internal_strconv_optimize), ("internal/strconv.powtab", laid_internal_strconv_powtab), ("internal/strconv.float64pow10", laid_internal_strconv_float64pow10), ("internal/strconv.float32pow10", laid_internal_strconv_float32pow10), ("internal/strconv.uint64pow10", laid_internal_strconv_uint64pow10), ("strconv.ErrRange", laid_strconv_ErrRange), ("strconv.ErrSyntax", laid_strconv_ErrSyntax), ("internal/strconv.leftcheats", laid_internal_strconv_leftcheats), ("internal/strconv.pow10Tab", laid_internal_strconv_pow10Tab)], narrowed := true }
def FloTextsUptoSaid : Prop := floTextsUptoRow.holds Tryz.pinned (OpenSpec.upto floTextsSpec)

/-- 'distafflaw04.TowerTexts', WHERE WHAT IT READS IS OF BULK AT MOST 1048576: true; the input reads as it did. -/
def towerTextsUptoRow : OpenClaim := { program := "ytcjkgnafpkkjmaagreatdoor", sum := "71cfcff7ecd259f47edafd2ed12d2927c31c10db3c4877d9bd2d0b6c7876e42a", func := "distaff/distafflaw04.TowerTexts", spec := "towerTexts", inPlace := ["math.Float64bits", "math.Float64frombits", "math.archFloor", "math.archTrunc", "internal/strconv.float32bits", "internal/strconv.float64bits", "internal/bytealg.IndexByteString", "internal/bytealg.IndexString", "internal/abi.NoEscape", "internal/bytealg.MakeNoZero", "internal/strconv.float64frombits", "internal/strconv.float32frombits"], unfollowed := true, recurses := true, named := ["internal/strconv.optimize", "internal/strconv.uint64pow10", "math/bits.deBruijn32tab", "math/bits.deBruijn64tab", "internal/strconv.pow10Tab", "internal/strconv.leftcheats", "internal/bytealg.MaxLen", "strconv.ErrSyntax", "strconv.ErrRange", "internal/strconv.float32info", "internal/strconv.float32pow10", "internal/strconv.powtab", "internal/strconv.float64info", "internal/strconv.float64pow10"], apart := false, laid := [("math/bits.deBruijn32tab", laid_math_bits_deBruijn32tab), ("math/bits.deBruijn64tab", laid_math_bits_deBruijn64tab), ("internal/strconv.float32info", laid_internal_strconv_float32info), ("internal/strconv.float64info", laid_internal_strconv_float64info), ("internal/strconv.optimize", laid_internal_strconv_optimize), ("internal/strconv.powtab", laid_internal_strconv_powtab), ("internal/strconv.float64pow10", laid_internal_strconv_float64pow10), ("internal/strconv.float32pow10", laid_internal_strconv_float32pow10), ("internal/strconv.uint64pow10", laid_internal_strconv_uint64pow10), ("strconv.ErrRange", laid_strconv_ErrRange), ("strconv.ErrSyntax", laid_strconv_ErrSyntax), ("internal/strconv.leftcheats", laid_internal_strconv_leftcheats), ("internal/strconv.pow10Tab", laid_internal_strconv_pow10Tab)], narrowed := true }
def TowerTextsUptoSaid : Prop := towerTextsUptoRow.holds Tryz.pinned (OpenSpec.upto towerTextsSpec)

end Rows
end Go.Proofs.YtcjkgnafpkkjmaaGreatDoor
