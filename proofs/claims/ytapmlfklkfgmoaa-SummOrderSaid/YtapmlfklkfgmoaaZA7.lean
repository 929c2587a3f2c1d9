/- Chapter 2: All: what its loops carry. -/
import Derived.Test.YtapmlfklkfgmoaaZA6
set_option linter.unusedVariables false
namespace Go.Proofs.Ytapmlfklkfgmoaa
open Go.RowKit Go.Sx
abbrev g4 : Gam := tab4.gamz [] []
abbrev GA : Type := List S × Int × Int × Unit × Int × S
def lpAll : LP 2 GA := .pair (.slot 2 15 (.list eS)) (.pair (.slot 2 16 dI) (.pair (.slot 2 17 dI) (.pair (.fix 2 6 (.p 1 0)) (.pair (.slot 2 7 dI) (.obj 2 1 24 eS)))))
abbrev GR : Type := List S × Int × Unit × Int × S
def lpRall : LP 2 GR := .pair (.slot 2 1 (.list eS)) (.pair (.slot 2 8 dI) (.pair (.fix 2 6 (.p 1 0)) (.pair (.slot 2 7 dI) (.obj 2 1 24 eS))))
end Go.Proofs.Ytapmlfklkfgmoaa
