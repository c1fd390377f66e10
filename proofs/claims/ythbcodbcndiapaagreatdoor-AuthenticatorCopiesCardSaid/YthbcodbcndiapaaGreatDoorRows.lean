/-
  NARROWER THAN 'FOR EVERY INPUT', by the rows' own cells (each row's printed sentence says how): AuthenticatorEncodes: laid · AuthenticatorSeals: laid · AuthenticatorChecks: laid · AuthenticatorHolds: laid · AuthenticatorCopies: laid.
  DERIVED. THE GIVEN ROWS OF THIS SEAT. 5 by the template 'for every input the law returns true; each argument reads behind the call as it read before'; 0 by the template 'total and deterministic' (their statements: YthbcodbcndiapaaGreatDoorTotals.lean).
  GIVEN WITH THE SEED: the statements are not yours to turn. If you find one false, say at which input.
  Laid BY PROGRAM, IN A SANDBOX (cutbox-rows.mjs): the forced cells as the released guide's own fill.sh prints them over the translation 986dc9a7dd9f1f1c… (all of the seat's roots in one cut). By AI agents, Wed Nov 11 2026. No macro, syntax, notation, axiom, sorry.
-/
import Derived.Test.YthbcodbcndiapaaGreatDoorChecked
import GoSem.PinnedTables
import GoSem.Claim
import GoSem.ClaimJoined
import GoSem.ClaimMapViews
import Derived.JoinedTies
import Derived.KernelRfl
namespace Go.Proofs.YthbcodbcndiapaaGreatDoor
/- THE CELL 'sum', in the pinned program and in every row, IS THE sha256 OF THE DUMP (.gsa) THAT YthbcodbcndiapaaGreatDoorProg.lean LOADS. Nothing in Lean hashes anything: it is a label: what it is worth is what the hold of that sum in a sandbox is worth. -/
noncomputable def Tryz.pinned : Pinned := { name := "ythbcodbcndiapaagreatdoor", sum := "986dc9a7dd9f1f1c4864a660b9a4118c978411ba01299d5cc8586c5645ec6f6c", checked := Tryz.checked }
namespace Rows
def none {H : Type} : Left H := { results := [], args := [] }

/- WHAT THE LISTED PACKAGE-LEVEL VARIABLES READ AS WHEN THE CALL BEGINS. Each datum BY PROGRAM (the guide's laid-datum.mjs) off the statement by which the dump's own 'gosem.cut.vars' lays the variable. In a bare row this is a premise. The card (YthbcodbcndiapaaGreatDoorCards.lean) ties it to the program's text. -/
def laid_unicode_utf8_acceptRanges {H : Type} : DataW H := .agg [.agg [.lit (.int .u8 128), .lit (.int .u8 191)], .agg [.lit (.int .u8 160), .lit (.int .u8 191)], .agg [.lit (.int .u8 128), .lit (.int .u8 159)], .agg [.lit (.int .u8 144), .lit (.int .u8 191)], .agg [.lit (.int .u8 128), .lit (.int .u8 143)], .agg [.lit (.int .u8 0), .lit (.int .u8 0)], .agg [.lit (.int .u8 0), .lit (.int .u8 0)], .agg [.lit (.int .u8 0), .lit (.int .u8 0)], .agg [.lit (.int .u8 0), .lit (.int .u8 0)], .agg [.lit (.int .u8 0), .lit (.int .u8 0)], .agg [.lit (.int .u8 0), .lit (.int .u8 0)], .agg [.lit (.int .u8 0), .lit (.int .u8 0)], .agg [.lit (.int .u8 0), .lit (.int .u8 0)], .agg [.lit (.int .u8 0), .lit (.int .u8 0)], .agg [.lit (.int .u8 0), .lit (.int .u8 0)], .agg [.lit (.int .u8 0), .lit (.int .u8 0)]]
def laid_watchword_sha_start {H : Type} : DataW H := .agg [.lit (.int .u32 1779033703), .lit (.int .u32 3144134277), .lit (.int .u32 1013904242), .lit (.int .u32 2773480762), .lit (.int .u32 1359893119), .lit (.int .u32 2600822924), .lit (.int .u32 528734635), .lit (.int .u32 1541459225)]
def laid_watchword_sha_constants {H : Type} : DataW H := .agg [.lit (.int .u32 1116352408), .lit (.int .u32 1899447441), .lit (.int .u32 3049323471), .lit (.int .u32 3921009573), .lit (.int .u32 961987163), .lit (.int .u32 1508970993), .lit (.int .u32 2453635748), .lit (.int .u32 2870763221), .lit (.int .u32 3624381080), .lit (.int .u32 310598401), .lit (.int .u32 607225278), .lit (.int .u32 1426881987), .lit (.int .u32 1925078388), .lit (.int .u32 2162078206), .lit (.int .u32 2614888103), .lit (.int .u32 3248222580), .lit (.int .u32 3835390401), .lit (.int .u32 4022224774), .lit (.int .u32 264347078), .lit (.int .u32 604807628), .lit (.int .u32 770255983), .lit (.int .u32 1249150122), .lit (.int .u32 1555081692), .lit (.int .u32 1996064986), .lit (.int .u32 2554220882), .lit (.int .u32 2821834349), .lit (.int .u32 2952996808), .lit (.int .u32 3210313671), .lit (.int .u32 3336571891), .lit (.int .u32 3584528711), .lit (.int .u32 113926993), .lit (.int .u32 338241895), .lit (.int .u32 666307205), .lit (.int .u32 773529912), .lit (.int .u32 1294757372), .lit (.int .u32 1396182291), .lit (.int .u32 1695183700), .lit (.int .u32 1986661051), .lit (.int .u32 2177026350), .lit (.int .u32 2456956037), .lit (.int .u32 2730485921), .lit (.int .u32 2820302411), .lit (.int .u32 3259730800), .lit (.int .u32 3345764771), .lit (.int .u32 3516065817), .lit (.int .u32 3600352804), .lit (.int .u32 4094571909), .lit (.int .u32 275423344), .lit (.int .u32 430227734), .lit (.int .u32 506948616), .lit (.int .u32 659060556), .lit (.int .u32 883997877), .lit (.int .u32 958139571), .lit (.int .u32 1322822218), .lit (.int .u32 1537002063), .lit (.int .u32 1747873779), .lit (.int .u32 1955562222), .lit (.int .u32 2024104815), .lit (.int .u32 2227730452), .lit (.int .u32 2361852424), .lit (.int .u32 2428436474), .lit (.int .u32 2756734187), .lit (.int .u32 3204031479), .lit (.int .u32 3329325298)]
/-- One of Go's own tables, pinned by name: the form's constant. -/
def laid_unicode_utf8_first : DataW Unit := Go.Pinned.utf8First
def laid_watchword_watchwordref04_constants {H : Type} : DataW H := .slice [.lit (.int .i64 1116352408), .lit (.int .i64 1899447441), .lit (.int .i64 3049323471), .lit (.int .i64 3921009573), .lit (.int .i64 961987163), .lit (.int .i64 1508970993), .lit (.int .i64 2453635748), .lit (.int .i64 2870763221), .lit (.int .i64 3624381080), .lit (.int .i64 310598401), .lit (.int .i64 607225278), .lit (.int .i64 1426881987), .lit (.int .i64 1925078388), .lit (.int .i64 2162078206), .lit (.int .i64 2614888103), .lit (.int .i64 3248222580), .lit (.int .i64 3835390401), .lit (.int .i64 4022224774), .lit (.int .i64 264347078), .lit (.int .i64 604807628), .lit (.int .i64 770255983), .lit (.int .i64 1249150122), .lit (.int .i64 1555081692), .lit (.int .i64 1996064986), .lit (.int .i64 2554220882), .lit (.int .i64 2821834349), .lit (.int .i64 2952996808), .lit (.int .i64 3210313671), .lit (.int .i64 3336571891), .lit (.int .i64 3584528711), .lit (.int .i64 113926993), .lit (.int .i64 338241895), .lit (.int .i64 666307205), .lit (.int .i64 773529912), .lit (.int .i64 1294757372), .lit (.int .i64 1396182291), .lit (.int .i64 1695183700), .lit (.int .i64 1986661051), .lit (.int .i64 2177026350), .lit (.int .i64 2456956037), .lit (.int .i64 2730485921), .lit (.int .i64 2820302411), .lit (.int .i64 3259730800), .lit (.int .i64 3345764771), .lit (.int .i64 3516065817), .lit (.int .i64 3600352804), .lit (.int .i64 4094571909), .lit (.int .i64 275423344), .lit (.int .i64 430227734), .lit (.int .i64 506948616), .lit (.int .i64 659060556), .lit (.int .i64 883997877), .lit (.int .i64 958139571), .lit (.int .i64 1322822218), .lit (.int .i64 1537002063), .lit (.int .i64 1747873779), .lit (.int .i64 1955562222), .lit (.int .i64 2024104815), .lit (.int .i64 2227730452), .lit (.int .i64 2361852424), .lit (.int .i64 2428436474), .lit (.int .i64 2756734187), .lit (.int .i64 3204031479), .lit (.int .i64 3329325298)] []
def laid_watchword_watchwordref06_substitutes {H : Type} : DataW H := .agg [.lit (.int .u8 99), .lit (.int .u8 124), .lit (.int .u8 119), .lit (.int .u8 123), .lit (.int .u8 242), .lit (.int .u8 107), .lit (.int .u8 111), .lit (.int .u8 197), .lit (.int .u8 48), .lit (.int .u8 1), .lit (.int .u8 103), .lit (.int .u8 43), .lit (.int .u8 254), .lit (.int .u8 215), .lit (.int .u8 171), .lit (.int .u8 118), .lit (.int .u8 202), .lit (.int .u8 130), .lit (.int .u8 201), .lit (.int .u8 125), .lit (.int .u8 250), .lit (.int .u8 89), .lit (.int .u8 71), .lit (.int .u8 240), .lit (.int .u8 173), .lit (.int .u8 212), .lit (.int .u8 162), .lit (.int .u8 175), .lit (.int .u8 156), .lit (.int .u8 164), .lit (.int .u8 114), .lit (.int .u8 192), .lit (.int .u8 183), .lit (.int .u8 253), .lit (.int .u8 147), .lit (.int .u8 38), .lit (.int .u8 54), .lit (.int .u8 63), .lit (.int .u8 247), .lit (.int .u8 204), .lit (.int .u8 52), .lit (.int .u8 165), .lit (.int .u8 229), .lit (.int .u8 241), .lit (.int .u8 113), .lit (.int .u8 216), .lit (.int .u8 49), .lit (.int .u8 21), .lit (.int .u8 4), .lit (.int .u8 199), .lit (.int .u8 35), .lit (.int .u8 195), .lit (.int .u8 24), .lit (.int .u8 150), .lit (.int .u8 5), .lit (.int .u8 154), .lit (.int .u8 7), .lit (.int .u8 18), .lit (.int .u8 128), .lit (.int .u8 226), .lit (.int .u8 235), .lit (.int .u8 39), .lit (.int .u8 178), .lit (.int .u8 117), .lit (.int .u8 9), .lit (.int .u8 131), .lit (.int .u8 44), .lit (.int .u8 26), .lit (.int .u8 27), .lit (.int .u8 110), .lit (.int .u8 90), .lit (.int .u8 160), .lit (.int .u8 82), .lit (.int .u8 59), .lit (.int .u8 214), .lit (.int .u8 179), .lit (.int .u8 41), .lit (.int .u8 227), .lit (.int .u8 47), .lit (.int .u8 132), .lit (.int .u8 83), .lit (.int .u8 209), .lit (.int .u8 0), .lit (.int .u8 237), .lit (.int .u8 32), .lit (.int .u8 252), .lit (.int .u8 177), .lit (.int .u8 91), .lit (.int .u8 106), .lit (.int .u8 203), .lit (.int .u8 190), .lit (.int .u8 57), .lit (.int .u8 74), .lit (.int .u8 76), .lit (.int .u8 88), .lit (.int .u8 207), .lit (.int .u8 208), .lit (.int .u8 239), .lit (.int .u8 170), .lit (.int .u8 251), .lit (.int .u8 67), .lit (.int .u8 77), .lit (.int .u8 51), .lit (.int .u8 133), .lit (.int .u8 69), .lit (.int .u8 249), .lit (.int .u8 2), .lit (.int .u8 127), .lit (.int .u8 80), .lit (.int .u8 60), .lit (.int .u8 159), .lit (.int .u8 168), .lit (.int .u8 81), .lit (.int .u8 163), .lit (.int .u8 64), .lit (.int .u8 143), .lit (.int .u8 146), .lit (.int .u8 157), .lit (.int .u8 56), .lit (.int .u8 245), .lit (.int .u8 188), .lit (.int .u8 182), .lit (.int .u8 218), .lit (.int .u8 33), .lit (.int .u8 16), .lit (.int .u8 255), .lit (.int .u8 243), .lit (.int .u8 210), .lit (.int .u8 205), .lit (.int .u8 12), .lit (.int .u8 19), .lit (.int .u8 236), .lit (.int .u8 95), .lit (.int .u8 151), .lit (.int .u8 68), .lit (.int .u8 23), .lit (.int .u8 196), .lit (.int .u8 167), .lit (.int .u8 126), .lit (.int .u8 61), .lit (.int .u8 100), .lit (.int .u8 93), .lit (.int .u8 25), .lit (.int .u8 115), .lit (.int .u8 96), .lit (.int .u8 129), .lit (.int .u8 79), .lit (.int .u8 220), .lit (.int .u8 34), .lit (.int .u8 42), .lit (.int .u8 144), .lit (.int .u8 136), .lit (.int .u8 70), .lit (.int .u8 238), .lit (.int .u8 184), .lit (.int .u8 20), .lit (.int .u8 222), .lit (.int .u8 94), .lit (.int .u8 11), .lit (.int .u8 219), .lit (.int .u8 224), .lit (.int .u8 50), .lit (.int .u8 58), .lit (.int .u8 10), .lit (.int .u8 73), .lit (.int .u8 6), .lit (.int .u8 36), .lit (.int .u8 92), .lit (.int .u8 194), .lit (.int .u8 211), .lit (.int .u8 172), .lit (.int .u8 98), .lit (.int .u8 145), .lit (.int .u8 149), .lit (.int .u8 228), .lit (.int .u8 121), .lit (.int .u8 231), .lit (.int .u8 200), .lit (.int .u8 55), .lit (.int .u8 109), .lit (.int .u8 141), .lit (.int .u8 213), .lit (.int .u8 78), .lit (.int .u8 169), .lit (.int .u8 108), .lit (.int .u8 86), .lit (.int .u8 244), .lit (.int .u8 234), .lit (.int .u8 101), .lit (.int .u8 122), .lit (.int .u8 174), .lit (.int .u8 8), .lit (.int .u8 186), .lit (.int .u8 120), .lit (.int .u8 37), .lit (.int .u8 46), .lit (.int .u8 28), .lit (.int .u8 166), .lit (.int .u8 180), .lit (.int .u8 198), .lit (.int .u8 232), .lit (.int .u8 221), .lit (.int .u8 116), .lit (.int .u8 31), .lit (.int .u8 75), .lit (.int .u8 189), .lit (.int .u8 139), .lit (.int .u8 138), .lit (.int .u8 112), .lit (.int .u8 62), .lit (.int .u8 181), .lit (.int .u8 102), .lit (.int .u8 72), .lit (.int .u8 3), .lit (.int .u8 246), .lit (.int .u8 14), .lit (.int .u8 97), .lit (.int .u8 53), .lit (.int .u8 87), .lit (.int .u8 185), .lit (.int .u8 134), .lit (.int .u8 193), .lit (.int .u8 29), .lit (.int .u8 158), .lit (.int .u8 225), .lit (.int .u8 248), .lit (.int .u8 152), .lit (.int .u8 17), .lit (.int .u8 105), .lit (.int .u8 217), .lit (.int .u8 142), .lit (.int .u8 148), .lit (.int .u8 155), .lit (.int .u8 30), .lit (.int .u8 135), .lit (.int .u8 233), .lit (.int .u8 206), .lit (.int .u8 85), .lit (.int .u8 40), .lit (.int .u8 223), .lit (.int .u8 140), .lit (.int .u8 161), .lit (.int .u8 137), .lit (.int .u8 13), .lit (.int .u8 191), .lit (.int .u8 230), .lit (.int .u8 66), .lit (.int .u8 104), .lit (.int .u8 65), .lit (.int .u8 153), .lit (.int .u8 45), .lit (.int .u8 15), .lit (.int .u8 176), .lit (.int .u8 84), .lit (.int .u8 187), .lit (.int .u8 22)]

/-- 'watchwordlaw17.AuthenticatorEncodes': WHATEVER THE INPUT: true; the input reads as it did. -/
def authenticatorEncodesSpec : ChangeSpec := { name := "authenticatorEncodes", fn := fun _ => fun
  | [d1, d2] => { results := [.lit (.bool true)], args := [d1, d2] }
  | _ => none }
def authenticatorEncodesRow : OpenClaim := { program := "ythbcodbcndiapaagreatdoor", sum := "986dc9a7dd9f1f1c4864a660b9a4118c978411ba01299d5cc8586c5645ec6f6c", func := "watchword/watchwordlaw17.AuthenticatorEncodes", spec := "authenticatorEncodes", inPlace := ["internal/bytealg.IndexByteString", "internal/bytealg.IndexString", "internal/bytealg.MakeNoZero"], unfollowed := true, recurses := true, named := ["unicode/utf8.first", "unicode/utf8.acceptRanges", "internal/bytealg.MaxLen", "watchword/sha.start", "watchword/sha.constants"], apart := false, laid := [("unicode/utf8.acceptRanges", laid_unicode_utf8_acceptRanges), ("watchword/sha.start", laid_watchword_sha_start), ("watchword/sha.constants", laid_watchword_sha_constants), ("unicode/utf8.first", laid_unicode_utf8_first)] }
def AuthenticatorEncodesSaid : Prop := authenticatorEncodesRow.holds Tryz.pinned (OpenSpec.ofChange authenticatorEncodesSpec)

/-- ITS FALSE NEIGHBOUR: 'it returns false'. Refute it at one input. -/
def authenticatorEncodesWrong : ChangeSpec := { name := "authenticatorEncodes", fn := fun _ => fun
  | [d1, d2] => { results := [.lit (.bool false)], args := [d1, d2] }
  | _ => none }
def AuthenticatorEncodesWrongFalsely : Prop := authenticatorEncodesRow.holds Tryz.pinned (OpenSpec.ofChange authenticatorEncodesWrong)

/-- 'watchwordlaw17.AuthenticatorSeals': WHATEVER THE INPUT: true; the input reads as it did. -/
def authenticatorSealsSpec : ChangeSpec := { name := "authenticatorSeals", fn := fun _ => fun
  | [d1, d2, d3, d4, d5] => { results := [.lit (.bool true)], args := [d1, d2, d3, d4, d5] }
  | _ => none }
def authenticatorSealsRow : OpenClaim := { program := "ythbcodbcndiapaagreatdoor", sum := "986dc9a7dd9f1f1c4864a660b9a4118c978411ba01299d5cc8586c5645ec6f6c", func := "watchword/watchwordlaw17.AuthenticatorSeals", spec := "authenticatorSeals", inPlace := ["internal/bytealg.IndexByteString", "internal/bytealg.IndexString", "internal/bytealg.MakeNoZero"], unfollowed := true, recurses := true, named := ["unicode/utf8.first", "unicode/utf8.acceptRanges", "internal/bytealg.MaxLen", "watchword/sha.start", "watchword/sha.constants", "watchword/watchwordref04.constants", "watchword/watchwordref06.substitutes"], apart := false, laid := [("unicode/utf8.acceptRanges", laid_unicode_utf8_acceptRanges), ("watchword/watchwordref04.constants", laid_watchword_watchwordref04_constants), ("watchword/watchwordref06.substitutes", laid_watchword_watchwordref06_substitutes), ("watchword/sha.start", laid_watchword_sha_start), ("watchword/sha.constants", laid_watchword_sha_constants), ("unicode/utf8.first", laid_unicode_utf8_first)] }
def AuthenticatorSealsSaid : Prop := authenticatorSealsRow.holds Tryz.pinned (OpenSpec.ofChange authenticatorSealsSpec)

/-- ITS FALSE NEIGHBOUR: 'it returns false'. Refute it at one input. -/
def authenticatorSealsWrong : ChangeSpec := { name := "authenticatorSeals", fn := fun _ => fun
  | [d1, d2, d3, d4, d5] => { results := [.lit (.bool false)], args := [d1, d2, d3, d4, d5] }
  | _ => none }
def AuthenticatorSealsWrongFalsely : Prop := authenticatorSealsRow.holds Tryz.pinned (OpenSpec.ofChange authenticatorSealsWrong)

/-- 'watchwordlaw17.AuthenticatorChecks': WHATEVER THE INPUT: true; the input reads as it did. -/
def authenticatorChecksSpec : ChangeSpec := { name := "authenticatorChecks", fn := fun _ => fun
  | [d1, d2, d3, d4, d5] => { results := [.lit (.bool true)], args := [d1, d2, d3, d4, d5] }
  | _ => none }
def authenticatorChecksRow : OpenClaim := { program := "ythbcodbcndiapaagreatdoor", sum := "986dc9a7dd9f1f1c4864a660b9a4118c978411ba01299d5cc8586c5645ec6f6c", func := "watchword/watchwordlaw17.AuthenticatorChecks", spec := "authenticatorChecks", inPlace := ["internal/bytealg.IndexByteString", "internal/bytealg.IndexString", "internal/bytealg.MakeNoZero"], unfollowed := true, recurses := true, named := ["unicode/utf8.first", "unicode/utf8.acceptRanges", "internal/bytealg.MaxLen", "watchword/sha.start", "watchword/sha.constants"], apart := false, laid := [("unicode/utf8.acceptRanges", laid_unicode_utf8_acceptRanges), ("watchword/sha.start", laid_watchword_sha_start), ("watchword/sha.constants", laid_watchword_sha_constants), ("unicode/utf8.first", laid_unicode_utf8_first)] }
def AuthenticatorChecksSaid : Prop := authenticatorChecksRow.holds Tryz.pinned (OpenSpec.ofChange authenticatorChecksSpec)

/-- ITS FALSE NEIGHBOUR: 'it returns false'. Refute it at one input. -/
def authenticatorChecksWrong : ChangeSpec := { name := "authenticatorChecks", fn := fun _ => fun
  | [d1, d2, d3, d4, d5] => { results := [.lit (.bool false)], args := [d1, d2, d3, d4, d5] }
  | _ => none }
def AuthenticatorChecksWrongFalsely : Prop := authenticatorChecksRow.holds Tryz.pinned (OpenSpec.ofChange authenticatorChecksWrong)

/-- 'watchwordlaw17.AuthenticatorHolds': WHATEVER THE INPUT: true; the input reads as it did. -/
def authenticatorHoldsSpec : ChangeSpec := { name := "authenticatorHolds", fn := fun _ => fun
  | [d1, d2, d3, d4, d5, d6, d7] => { results := [.lit (.bool true)], args := [d1, d2, d3, d4, d5, d6, d7] }
  | _ => none }
def authenticatorHoldsRow : OpenClaim := { program := "ythbcodbcndiapaagreatdoor", sum := "986dc9a7dd9f1f1c4864a660b9a4118c978411ba01299d5cc8586c5645ec6f6c", func := "watchword/watchwordlaw17.AuthenticatorHolds", spec := "authenticatorHolds", inPlace := ["internal/bytealg.IndexByteString", "internal/bytealg.IndexString", "internal/bytealg.MakeNoZero"], unfollowed := true, recurses := true, named := ["unicode/utf8.first", "unicode/utf8.acceptRanges", "internal/bytealg.MaxLen", "watchword/sha.start", "watchword/sha.constants"], apart := false, laid := [("unicode/utf8.acceptRanges", laid_unicode_utf8_acceptRanges), ("watchword/sha.start", laid_watchword_sha_start), ("watchword/sha.constants", laid_watchword_sha_constants), ("unicode/utf8.first", laid_unicode_utf8_first)] }
def AuthenticatorHoldsSaid : Prop := authenticatorHoldsRow.holds Tryz.pinned (OpenSpec.ofChange authenticatorHoldsSpec)

/-- ITS FALSE NEIGHBOUR: 'it returns false'. Refute it at one input. -/
def authenticatorHoldsWrong : ChangeSpec := { name := "authenticatorHolds", fn := fun _ => fun
  | [d1, d2, d3, d4, d5, d6, d7] => { results := [.lit (.bool false)], args := [d1, d2, d3, d4, d5, d6, d7] }
  | _ => none }
def AuthenticatorHoldsWrongFalsely : Prop := authenticatorHoldsRow.holds Tryz.pinned (OpenSpec.ofChange authenticatorHoldsWrong)

/-- 'watchwordlaw17.AuthenticatorCopies': WHATEVER THE INPUT: true; the input reads as it did. -/
def authenticatorCopiesSpec : ChangeSpec := { name := "authenticatorCopies", fn := fun _ => fun
  | [d1, d2] => { results := [.lit (.bool true)], args := [d1, d2] }
  | _ => none }
def authenticatorCopiesRow : OpenClaim := { program := "ythbcodbcndiapaagreatdoor", sum := "986dc9a7dd9f1f1c4864a660b9a4118c978411ba01299d5cc8586c5645ec6f6c", func := "watchword/watchwordlaw17.AuthenticatorCopies", spec := "authenticatorCopies", inPlace := ["internal/bytealg.IndexByteString", "internal/bytealg.IndexString", "internal/bytealg.MakeNoZero"], unfollowed := true, recurses := true, named := ["unicode/utf8.first", "unicode/utf8.acceptRanges", "internal/bytealg.MaxLen", "watchword/sha.start", "watchword/sha.constants"], apart := false, laid := [("unicode/utf8.acceptRanges", laid_unicode_utf8_acceptRanges), ("watchword/sha.start", laid_watchword_sha_start), ("watchword/sha.constants", laid_watchword_sha_constants), ("unicode/utf8.first", laid_unicode_utf8_first)] }
def AuthenticatorCopiesSaid : Prop := authenticatorCopiesRow.holds Tryz.pinned (OpenSpec.ofChange authenticatorCopiesSpec)

/-- ITS FALSE NEIGHBOUR: 'it returns false'. Refute it at one input. -/
def authenticatorCopiesWrong : ChangeSpec := { name := "authenticatorCopies", fn := fun _ => fun
  | [d1, d2] => { results := [.lit (.bool false)], args := [d1, d2] }
  | _ => none }
def AuthenticatorCopiesWrongFalsely : Prop := authenticatorCopiesRow.holds Tryz.pinned (OpenSpec.ofChange authenticatorCopiesWrong)

/- THE SECOND FORM. 'bulk': how many values and letters a reading holds, each counted each time it is reached (what is shared counts as often as it is met; a slice's spare places count too). A statement '..UptoSaid' is the law's where the arguments, and the package variables that the reading takes, are together of bulk at most 1048576: NARROWER than '..Said'. Prove '..Said' where nothing that the law and all that it calls make is longer than what came in: it says more and counts as full. Else prove '..UptoSaid'. A law counts once. -/
mutual
def uptoBulk {H : Type} : DataW H → Nat
  | .lit (.string bytes) => bytes.length + 1
  | .lit _ => 1
  | .nil => 1
  | .ptr d => uptoBulk d + 1
  | .slice elems spare => uptoBulkAll elems + uptoBulkAll spare + 1
  | .agg parts => uptoBulkAll parts + 1
  | .iface _ d => uptoBulk d + 1
  | .map entries => uptoBulkEntries entries + 1
  | .held _ => 1
def uptoBulkAll {H : Type} : List (DataW H) → Nat
  | [] => 0
  | d :: r => uptoBulk d + uptoBulkAll r
def uptoBulkEntries {H : Type} : List (Lit × DataW H) → Nat
  | [] => 0
  | x :: r => uptoBulkEntry x + uptoBulkEntries r
def uptoBulkEntry {H : Type} : Lit × DataW H → Nat
  | (.string bytes, d) => bytes.length + uptoBulk d + 1
  | (_, d) => uptoBulk d + 1
 end
def uptoSmall : (H : Type) → List (DataW H) → Bool := fun _ ds => decide (uptoBulkAll ds ≤ 1048576)
def OpenSpec.upto (s : _root_.Go.ChangeSpec) : _root_.Go.OpenSpec := { _root_.Go.OpenSpec.ofChange s with cond := some uptoSmall }

/-- 'watchwordlaw17.AuthenticatorEncodes', WHERE WHAT IT READS IS OF BULK AT MOST 1048576: true; the input reads as it did. -/
def authenticatorEncodesUptoRow : OpenClaim := { program := "ythbcodbcndiapaagreatdoor", sum := "986dc9a7dd9f1f1c4864a660b9a4118c978411ba01299d5cc8586c5645ec6f6c", func := "watchword/watchwordlaw17.AuthenticatorEncodes", spec := "authenticatorEncodes", inPlace := ["internal/bytealg.IndexByteString", "internal/bytealg.IndexString", "internal/bytealg.MakeNoZero"], unfollowed := true, recurses := true, named := ["unicode/utf8.first", "unicode/utf8.acceptRanges", "internal/bytealg.MaxLen", "watchword/sha.start", "watchword/sha.constants"], apart := false, laid := [("unicode/utf8.acceptRanges", laid_unicode_utf8_acceptRanges), ("watchword/sha.start", laid_watchword_sha_start), ("watchword/sha.constants", laid_watchword_sha_constants), ("unicode/utf8.first", laid_unicode_utf8_first)], narrowed := true }
def AuthenticatorEncodesUptoSaid : Prop := authenticatorEncodesUptoRow.holds Tryz.pinned (OpenSpec.upto authenticatorEncodesSpec)

/-- 'watchwordlaw17.AuthenticatorSeals', WHERE WHAT IT READS IS OF BULK AT MOST 1048576: true; the input reads as it did. -/
def authenticatorSealsUptoRow : OpenClaim := { program := "ythbcodbcndiapaagreatdoor", sum := "986dc9a7dd9f1f1c4864a660b9a4118c978411ba01299d5cc8586c5645ec6f6c", func := "watchword/watchwordlaw17.AuthenticatorSeals", spec := "authenticatorSeals", inPlace := ["internal/bytealg.IndexByteString", "internal/bytealg.IndexString", "internal/bytealg.MakeNoZero"], unfollowed := true, recurses := true, named := ["unicode/utf8.first", "unicode/utf8.acceptRanges", "internal/bytealg.MaxLen", "watchword/sha.start", "watchword/sha.constants", "watchword/watchwordref04.constants", "watchword/watchwordref06.substitutes"], apart := false, laid := [("unicode/utf8.acceptRanges", laid_unicode_utf8_acceptRanges), ("watchword/watchwordref04.constants", laid_watchword_watchwordref04_constants), ("watchword/watchwordref06.substitutes", laid_watchword_watchwordref06_substitutes), ("watchword/sha.start", laid_watchword_sha_start), ("watchword/sha.constants", laid_watchword_sha_constants), ("unicode/utf8.first", laid_unicode_utf8_first)], narrowed := true }
def AuthenticatorSealsUptoSaid : Prop := authenticatorSealsUptoRow.holds Tryz.pinned (OpenSpec.upto authenticatorSealsSpec)

/-- 'watchwordlaw17.AuthenticatorChecks', WHERE WHAT IT READS IS OF BULK AT MOST 1048576: true; the input reads as it did. -/
def authenticatorChecksUptoRow : OpenClaim := { program := "ythbcodbcndiapaagreatdoor", sum := "986dc9a7dd9f1f1c4864a660b9a4118c978411ba01299d5cc8586c5645ec6f6c", func := "watchword/watchwordlaw17.AuthenticatorChecks", spec := "authenticatorChecks", inPlace := ["internal/bytealg.IndexByteString", "internal/bytealg.IndexString", "internal/bytealg.MakeNoZero"], unfollowed := true, recurses := true, named := ["unicode/utf8.first", "unicode/utf8.acceptRanges", "internal/bytealg.MaxLen", "watchword/sha.start", "watchword/sha.constants"], apart := false, laid := [("unicode/utf8.acceptRanges", laid_unicode_utf8_acceptRanges), ("watchword/sha.start", laid_watchword_sha_start), ("watchword/sha.constants", laid_watchword_sha_constants), ("unicode/utf8.first", laid_unicode_utf8_first)], narrowed := true }
def AuthenticatorChecksUptoSaid : Prop := authenticatorChecksUptoRow.holds Tryz.pinned (OpenSpec.upto authenticatorChecksSpec)

/-- 'watchwordlaw17.AuthenticatorHolds', WHERE WHAT IT READS IS OF BULK AT MOST 1048576: true; the input reads as it did. -/
def authenticatorHoldsUptoRow : OpenClaim := { program := "ythbcodbcndiapaagreatdoor", sum := "986dc9a7dd9f1f1c4864a660b9a4118c978411ba01299d5cc8586c5645ec6f6c", func := "watchword/watchwordlaw17.AuthenticatorHolds", spec := "authenticatorHolds", inPlace := ["internal/bytealg.IndexByteString", "internal/bytealg.IndexString", "internal/bytealg.MakeNoZero"], unfollowed := true, recurses := true, named := ["unicode/utf8.first", "unicode/utf8.acceptRanges", "internal/bytealg.MaxLen", "watchword/sha.start", "watchword/sha.constants"], apart := false, laid := [("unicode/utf8.acceptRanges", laid_unicode_utf8_acceptRanges), ("watchword/sha.start", laid_watchword_sha_start), ("watchword/sha.constants", laid_watchword_sha_constants), ("unicode/utf8.first", laid_unicode_utf8_first)], narrowed := true }
def AuthenticatorHoldsUptoSaid : Prop := authenticatorHoldsUptoRow.holds Tryz.pinned (OpenSpec.upto authenticatorHoldsSpec)

/-- 'watchwordlaw17.AuthenticatorCopies', WHERE WHAT IT READS IS OF BULK AT MOST 1048576: true; the input reads as it did. -/
def authenticatorCopiesUptoRow : OpenClaim := { program := "ythbcodbcndiapaagreatdoor", sum := "986dc9a7dd9f1f1c4864a660b9a4118c978411ba01299d5cc8586c5645ec6f6c", func := "watchword/watchwordlaw17.AuthenticatorCopies", spec := "authenticatorCopies", inPlace := ["internal/bytealg.IndexByteString", "internal/bytealg.IndexString", "internal/bytealg.MakeNoZero"], unfollowed := true, recurses := true, named := ["unicode/utf8.first", "unicode/utf8.acceptRanges", "internal/bytealg.MaxLen", "watchword/sha.start", "watchword/sha.constants"], apart := false, laid := [("unicode/utf8.acceptRanges", laid_unicode_utf8_acceptRanges), ("watchword/sha.start", laid_watchword_sha_start), ("watchword/sha.constants", laid_watchword_sha_constants), ("unicode/utf8.first", laid_unicode_utf8_first)], narrowed := true }
def AuthenticatorCopiesUptoSaid : Prop := authenticatorCopiesUptoRow.holds Tryz.pinned (OpenSpec.upto authenticatorCopiesSpec)

end Rows
end Go.Proofs.YthbcodbcndiapaaGreatDoor
