/- The library's stable sort at windows: merging two rising pieces; told over any program that holds the bodies. -/
import Derived.Test.YtdneffnnpjgnbabSymMid
namespace Go.Proofs.Ytdneffnnpjgnbab
open Go.RowKit Go.Lib Go.Sort Go.Shelf
variable {P : Program} {α : Type} [Inhabited α]

theorem symMerge_g {k : Nat} (T : TyW P k) (hF : P.funcs[48]? = some Try.f48)
    (hF1 : P.funcs[49]? = some Try.f49) (hF2 : P.funcs[50]? = some Try.f50)
    (enc : α → List Value) (cf : α → α → Int) (hS : SWO (ltOf cf)) (g : Nat) (cb : Array Value) (blk off cap : Nat) (d0 : Array α) (w0 : World)
    (eg : ∀ args w, (callFunc g args).run P w = .ok (.enter g args) w) (hcmp : CmpLays P g cb enc k cf blk off d0.size w0) (R : RowK enc k w0 blk off d0) (hsz : d0.size < 4611686018427387904) :
    ∀ N, MergeC P enc cf k g cb blk off cap d0 w0 N := by
  intro N
  induction N with
  | zero => intro a m b d w hN _ _ h1 h2; omega
  | succ N ih =>
    intro a m b d w hN hs S ham hmb hb hA hB
    by_cases h1 : m = a + 1
    · exact symMerge_first T hF enc cf hS g cb blk off cap a m b d0 d w0 w eg hcmp R hs S h1 hmb hb (by omega) hB
    · by_cases h2 : b = m + 1
      · exact symMerge_last T hF enc cf hS g cb blk off cap a m b d0 d w0 w eg hcmp R hs S ham h1 h2 hb (by omega) hA
      · exact symMerge_mid T hF hF1 hF2 enc cf hS g cb blk off cap a m b d0 d w0 w eg hcmp R hs S ham hmb h1 h2 hb (by omega) hA hB N hN ih
end Go.Proofs.Ytdneffnnpjgnbab
