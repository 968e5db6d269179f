/- Walks of the functions of this seat: what each Go function comes to, as a Lean function, and the proof. Types and facts. Under no conditions. -/
import Derived.Test.YtgdfljiliflhfaaDoorC3Rt30
import Derived.Test.YtgdfljiliflhfaaDoorProg
set_option linter.unusedVariables false
set_option linter.unusedSimpArgs false
set_option maxRecDepth 100000
set_option maxHeartbeats 4000000
namespace Go.Proofs.YtgdfljiliflhfaaDoor.Rt
open Go Go.RowKit
def tab_0 : List Value := [.func (.func 119) #[] #[], .func (.func 120) #[] #[], .func (.func 121) #[] #[]]
def Glob_0 (D : Stab) : Prop := ∃ E fr, D 0 = some (.cells tab_0.toArray E fr)
theorem Glob_0.mono {D D' : Stab} (h : Glob_0 D) (hle : D.le D') : Glob_0 D' := by obtain ⟨E, fr, h⟩ := h; exact ⟨E, fr, hle _ _ h⟩
def tab_1 : List Value := [.func (.func 127) #[] #[], .func (.func 128) #[] #[]]
def Glob_1 (D : Stab) : Prop := ∃ E fr, D 1 = some (.cells tab_1.toArray E fr)
theorem Glob_1.mono {D D' : Stab} (h : Glob_1 D) (hle : D.le D') : Glob_1 D' := by obtain ⟨E, fr, h⟩ := h; exact ⟨E, fr, hle _ _ h⟩
def Glob (D : Stab) : Prop := Glob_0 D ∧ Glob_1 D
theorem Glob.mono {D D' : Stab} (h : Glob D) (hle : D.le D') : Glob D' := by obtain ⟨h0, h1⟩ := h; exact ⟨h0.mono hle, h1.mono hle⟩
structure Span where
  Low : Int
  High : Int
def kl_27 (x : Span) : List Int := [x.Low, x.High]
def C_Span : Codec Span := ⟨2, fun _ x cs => cs = [iv x.Low, iv x.High], by rintro _ _ _ rfl; rfl, fun _ h => h, by rintro _ _ _ rfl; rfl⟩
theorem C_Span.open {D : Stab} {x : Span} {cs : List Value} (h : C_Span.rep D x cs) : cs = [iv x.Low, iv x.High] := h
theorem C_Span.mk {D : Stab} (x : Span) : C_Span.rep D x [iv x.Low, iv x.High] := rfl
structure LineLine where
  From : Int
  To : Int
  Delay : Span
def C_LineLine : Codec LineLine := ⟨4, fun _ x cs => cs = [iv x.From, iv x.To, iv x.Delay.Low, iv x.Delay.High], by rintro _ _ _ rfl; rfl, fun _ h => h, by rintro _ _ _ rfl; rfl⟩
theorem C_LineLine.open {D : Stab} {x : LineLine} {cs : List Value} (h : C_LineLine.rep D x cs) : cs = [iv x.From, iv x.To, iv x.Delay.Low, iv x.Delay.High] := h
theorem C_LineLine.mk {D : Stab} (x : LineLine) : C_LineLine.rep D x [iv x.From, iv x.To, iv x.Delay.Low, iv x.Delay.High] := rfl
structure LineLoop where
  Exchange : Int
  Read : Span
def C_LineLoop : Codec LineLoop := ⟨3, fun _ x cs => cs = [iv x.Exchange, iv x.Read.Low, iv x.Read.High], by rintro _ _ _ rfl; rfl, fun _ h => h, by rintro _ _ _ rfl; rfl⟩
theorem C_LineLoop.open {D : Stab} {x : LineLoop} {cs : List Value} (h : C_LineLoop.rep D x cs) : cs = [iv x.Exchange, iv x.Read.Low, iv x.Read.High] := h
theorem C_LineLoop.mk {D : Stab} (x : LineLoop) : C_LineLoop.rep D x [iv x.Exchange, iv x.Read.Low, iv x.Read.High] := rfl
structure LineNet where
  Exchanges : Int
  Lines : (List LineLine)
  Hops : Int
  Loops : (List LineLoop)
def C_LineNet : Codec LineNet := ⟨4, fun D x cs => ∃ p1 c1 p2 c2, cs = [iv x.Exchanges, .slice p1 x.Lines.length c1, iv x.Hops, .slice p2 x.Loops.length c2] ∧ SRc C_LineLine D x.Lines p1 c1 ∧ SRc C_LineLoop D x.Loops p2 c2, by rintro _ _ _ ⟨p1, c1, p2, c2, rfl, _⟩; rfl, by rintro _ _ _ _ hle ⟨p1, c1, p2, c2, rfl, h1, h2⟩; exact ⟨p1, c1, p2, c2, rfl, h1.mono hle, h2.mono hle⟩, by rintro _ _ _ ⟨p1, c1, p2, c2, rfl, _⟩; rfl⟩
theorem C_LineNet.open {D : Stab} {x : LineNet} {cs : List Value} (h : C_LineNet.rep D x cs) : ∃ p1 c1 p2 c2, cs = [iv x.Exchanges, .slice p1 x.Lines.length c1, iv x.Hops, .slice p2 x.Loops.length c2] ∧ SRc C_LineLine D x.Lines p1 c1 ∧ SRc C_LineLoop D x.Loops p2 c2 := h
structure line_kind where
  exchange : Int
  lines : Int
def kl_149 (x : line_kind) : List Int := [x.exchange, x.lines]
def C_line_kind : Codec line_kind := ⟨2, fun _ x cs => cs = [iv x.exchange, iv x.lines], by rintro _ _ _ rfl; rfl, fun _ h => h, by rintro _ _ _ rfl; rfl⟩
theorem C_line_kind.open {D : Stab} {x : line_kind} {cs : List Value} (h : C_line_kind.rep D x cs) : cs = [iv x.exchange, iv x.lines] := h
theorem C_line_kind.mk {D : Stab} (x : line_kind) : C_line_kind.rep D x [iv x.exchange, iv x.lines] := rfl
structure line_net where
  LineNet : LineNet
  ways : (List (line_kind × (List (List Int))))
  left : Int
def C_line_net : Codec line_net := ⟨6, fun D x cs => ∃ p1 c1 p2 c2 b3, cs = [iv x.LineNet.Exchanges, .slice p1 x.LineNet.Lines.length c1, iv x.LineNet.Hops, .slice p2 x.LineNet.Loops.length c2, .map b3, iv x.left] ∧ SRc C_LineLine D x.LineNet.Lines p1 c1 ∧ SRc C_LineLoop D x.LineNet.Loops p2 c2 ∧ MapB kl_149 (C_sl (C_sl C_int)) false D x.ways b3, by rintro _ _ _ ⟨p1, c1, p2, c2, b3, rfl, _⟩; rfl, by rintro _ _ _ _ hle ⟨p1, c1, p2, c2, b3, rfl, h1, h2, h3⟩; exact ⟨p1, c1, p2, c2, b3, rfl, h1.mono hle, h2.mono hle, h3.mono hle⟩, by rintro _ _ _ ⟨p1, c1, p2, c2, b3, rfl, _⟩; rfl⟩
theorem C_line_net.open {D : Stab} {x : line_net} {cs : List Value} (h : C_line_net.rep D x cs) : ∃ p1 c1 p2 c2 b3, cs = [iv x.LineNet.Exchanges, .slice p1 x.LineNet.Lines.length c1, iv x.LineNet.Hops, .slice p2 x.LineNet.Loops.length c2, .map b3, iv x.left] ∧ SRc C_LineLine D x.LineNet.Lines p1 c1 ∧ SRc C_LineLoop D x.LineNet.Loops p2 c2 ∧ MapB kl_149 (C_sl (C_sl C_int)) false D x.ways b3 := h
structure BeatOpen where
  Clock : Int
  Hour : Int
  Step : Span
def C_BeatOpen : Codec BeatOpen := ⟨4, fun _ x cs => cs = [iv x.Clock, iv x.Hour, iv x.Step.Low, iv x.Step.High], by rintro _ _ _ rfl; rfl, fun _ h => h, by rintro _ _ _ rfl; rfl⟩
theorem C_BeatOpen.open {D : Stab} {x : BeatOpen} {cs : List Value} (h : C_BeatOpen.rep D x cs) : cs = [iv x.Clock, iv x.Hour, iv x.Step.Low, iv x.Step.High] := h
theorem C_BeatOpen.mk {D : Stab} (x : BeatOpen) : C_BeatOpen.rep D x [iv x.Clock, iv x.Hour, iv x.Step.Low, iv x.Step.High] := rfl
structure BeatPair where
  Hour : Int
  One : Int
  Other : Int
  Read : Span
def C_BeatPair : Codec BeatPair := ⟨5, fun _ x cs => cs = [iv x.Hour, iv x.One, iv x.Other, iv x.Read.Low, iv x.Read.High], by rintro _ _ _ rfl; rfl, fun _ h => h, by rintro _ _ _ rfl; rfl⟩
theorem C_BeatPair.open {D : Stab} {x : BeatPair} {cs : List Value} (h : C_BeatPair.rep D x cs) : cs = [iv x.Hour, iv x.One, iv x.Other, iv x.Read.Low, iv x.Read.High] := h
theorem C_BeatPair.mk {D : Stab} (x : BeatPair) : C_BeatPair.rep D x [iv x.Hour, iv x.One, iv x.Other, iv x.Read.Low, iv x.Read.High] := rfl
structure BeatCellar where
  Hours : Int
  Rates : (List Span)
  Opens : (List BeatOpen)
  Pairs : (List BeatPair)
def C_BeatCellar : Codec BeatCellar := ⟨4, fun D x cs => ∃ p1 c1 p2 c2 p3 c3, cs = [iv x.Hours, .slice p1 x.Rates.length c1, .slice p2 x.Opens.length c2, .slice p3 x.Pairs.length c3] ∧ SRc C_Span D x.Rates p1 c1 ∧ SRc C_BeatOpen D x.Opens p2 c2 ∧ SRc C_BeatPair D x.Pairs p3 c3, by rintro _ _ _ ⟨p1, c1, p2, c2, p3, c3, rfl, _⟩; rfl, by rintro _ _ _ _ hle ⟨p1, c1, p2, c2, p3, c3, rfl, h1, h2, h3⟩; exact ⟨p1, c1, p2, c2, p3, c3, rfl, h1.mono hle, h2.mono hle, h3.mono hle⟩, by rintro _ _ _ ⟨p1, c1, p2, c2, p3, c3, rfl, _⟩; rfl⟩
theorem C_BeatCellar.open {D : Stab} {x : BeatCellar} {cs : List Value} (h : C_BeatCellar.rep D x cs) : ∃ p1 c1 p2 c2 p3 c3, cs = [iv x.Hours, .slice p1 x.Rates.length c1, .slice p2 x.Opens.length c2, .slice p3 x.Pairs.length c3] ∧ SRc C_Span D x.Rates p1 c1 ∧ SRc C_BeatOpen D x.Opens p2 c2 ∧ SRc C_BeatPair D x.Pairs p3 c3 := h
structure beat_spot where
  clock : Int
  hour : Int
def kl_117 (x : beat_spot) : List Int := [x.clock, x.hour]
def C_beat_spot : Codec beat_spot := ⟨2, fun _ x cs => cs = [iv x.clock, iv x.hour], by rintro _ _ _ rfl; rfl, fun _ h => h, by rintro _ _ _ rfl; rfl⟩
theorem C_beat_spot.open {D : Stab} {x : beat_spot} {cs : List Value} (h : C_beat_spot.rep D x cs) : cs = [iv x.clock, iv x.hour] := h
theorem C_beat_spot.mk {D : Stab} (x : beat_spot) : C_beat_spot.rep D x [iv x.clock, iv x.hour] := rfl
structure beat_bound where
  of_ : beat_spot
  over : beat_spot
  by_ : Int
def C_beat_bound : Codec beat_bound := ⟨5, fun _ x cs => cs = [iv x.of_.clock, iv x.of_.hour, iv x.over.clock, iv x.over.hour, iv x.by_], by rintro _ _ _ rfl; rfl, fun _ h => h, by rintro _ _ _ rfl; rfl⟩
theorem C_beat_bound.open {D : Stab} {x : beat_bound} {cs : List Value} (h : C_beat_bound.rep D x cs) : cs = [iv x.of_.clock, iv x.of_.hour, iv x.over.clock, iv x.over.hour, iv x.by_] := h
theorem C_beat_bound.mk {D : Stab} (x : beat_bound) : C_beat_bound.rep D x [iv x.of_.clock, iv x.of_.hour, iv x.over.clock, iv x.over.hour, iv x.by_] := rfl
structure beat_cellar where
  BeatCellar : BeatCellar
  left : Int
  place : (List (beat_spot × Int))
def C_beat_cellar : Codec beat_cellar := ⟨6, fun D x cs => ∃ p1 c1 p2 c2 p3 c3 b4, cs = [iv x.BeatCellar.Hours, .slice p1 x.BeatCellar.Rates.length c1, .slice p2 x.BeatCellar.Opens.length c2, .slice p3 x.BeatCellar.Pairs.length c3, iv x.left, .map b4] ∧ SRc C_Span D x.BeatCellar.Rates p1 c1 ∧ SRc C_BeatOpen D x.BeatCellar.Opens p2 c2 ∧ SRc C_BeatPair D x.BeatCellar.Pairs p3 c3 ∧ MapB kl_117 C_int false D x.place b4, by rintro _ _ _ ⟨p1, c1, p2, c2, p3, c3, b4, rfl, _⟩; rfl, by rintro _ _ _ _ hle ⟨p1, c1, p2, c2, p3, c3, b4, rfl, h1, h2, h3, h4⟩; exact ⟨p1, c1, p2, c2, p3, c3, b4, rfl, h1.mono hle, h2.mono hle, h3.mono hle, h4.mono hle⟩, by rintro _ _ _ ⟨p1, c1, p2, c2, p3, c3, b4, rfl, _⟩; rfl⟩
theorem C_beat_cellar.open {D : Stab} {x : beat_cellar} {cs : List Value} (h : C_beat_cellar.rep D x cs) : ∃ p1 c1 p2 c2 p3 c3 b4, cs = [iv x.BeatCellar.Hours, .slice p1 x.BeatCellar.Rates.length c1, .slice p2 x.BeatCellar.Opens.length c2, .slice p3 x.BeatCellar.Pairs.length c3, iv x.left, .map b4] ∧ SRc C_Span D x.BeatCellar.Rates p1 c1 ∧ SRc C_BeatOpen D x.BeatCellar.Opens p2 c2 ∧ SRc C_BeatPair D x.BeatCellar.Pairs p3 c3 ∧ MapB kl_117 C_int false D x.place b4 := h
structure ScaleRule where
  Fast : Int
  Slow : Int
  Jerk : Int
  Drift : Span
def C_ScaleRule : Codec ScaleRule := ⟨5, fun _ x cs => cs = [iv x.Fast, iv x.Slow, iv x.Jerk, iv x.Drift.Low, iv x.Drift.High], by rintro _ _ _ rfl; rfl, fun _ h => h, by rintro _ _ _ rfl; rfl⟩
theorem C_ScaleRule.open {D : Stab} {x : ScaleRule} {cs : List Value} (h : C_ScaleRule.rep D x cs) : cs = [iv x.Fast, iv x.Slow, iv x.Jerk, iv x.Drift.Low, iv x.Drift.High] := h
theorem C_ScaleRule.mk {D : Stab} (x : ScaleRule) : C_ScaleRule.rep D x [iv x.Fast, iv x.Slow, iv x.Jerk, iv x.Drift.Low, iv x.Drift.High] := rfl
structure scale_part where
  ticks : Int
  way : Int
def kl_207 (x : scale_part) : List Int := [x.ticks, x.way]
def C_scale_part : Codec scale_part := ⟨2, fun _ x cs => cs = [iv x.ticks, iv x.way], by rintro _ _ _ rfl; rfl, fun _ h => h, by rintro _ _ _ rfl; rfl⟩
theorem C_scale_part.open {D : Stab} {x : scale_part} {cs : List Value} (h : C_scale_part.rep D x cs) : cs = [iv x.ticks, iv x.way] := h
theorem C_scale_part.mk {D : Stab} (x : scale_part) : C_scale_part.rep D x [iv x.ticks, iv x.way] := rfl
structure scale_rule where
  ScaleRule : ScaleRule
  known : (List (scale_part × Int))
def C_scale_rule : Codec scale_rule := ⟨6, fun D x cs => ∃ b1, cs = [iv x.ScaleRule.Fast, iv x.ScaleRule.Slow, iv x.ScaleRule.Jerk, iv x.ScaleRule.Drift.Low, iv x.ScaleRule.Drift.High, .map b1] ∧ MapB kl_207 C_int false D x.known b1, by rintro _ _ _ ⟨b1, rfl, _⟩; rfl, by rintro _ _ _ _ hle ⟨b1, rfl, h1⟩; exact ⟨b1, rfl, h1.mono hle⟩, by rintro _ _ _ ⟨b1, rfl, _⟩; rfl⟩
theorem C_scale_rule.open {D : Stab} {x : scale_rule} {cs : List Value} (h : C_scale_rule.rep D x cs) : ∃ b1, cs = [iv x.ScaleRule.Fast, iv x.ScaleRule.Slow, iv x.ScaleRule.Jerk, iv x.ScaleRule.Drift.Low, iv x.ScaleRule.Drift.High, .map b1] ∧ MapB kl_207 C_int false D x.known b1 := h
structure ScaleLook where
  Tick : Int
  Off : Span
def C_ScaleLook : Codec ScaleLook := ⟨3, fun _ x cs => cs = [iv x.Tick, iv x.Off.Low, iv x.Off.High], by rintro _ _ _ rfl; rfl, fun _ h => h, by rintro _ _ _ rfl; rfl⟩
theorem C_ScaleLook.open {D : Stab} {x : ScaleLook} {cs : List Value} (h : C_ScaleLook.rep D x cs) : cs = [iv x.Tick, iv x.Off.Low, iv x.Off.High] := h
theorem C_ScaleLook.mk {D : Stab} (x : ScaleLook) : C_ScaleLook.rep D x [iv x.Tick, iv x.Off.Low, iv x.Off.High] := rfl
structure ScaleBook where
  Rule : ScaleRule
  Ticks : Int
  Steer : (List Int)
  Looks : (List ScaleLook)
def C_ScaleBook : Codec ScaleBook := ⟨8, fun D x cs => ∃ p1 c1 p2 c2, cs = [iv x.Rule.Fast, iv x.Rule.Slow, iv x.Rule.Jerk, iv x.Rule.Drift.Low, iv x.Rule.Drift.High, iv x.Ticks, .slice p1 x.Steer.length c1, .slice p2 x.Looks.length c2] ∧ SRc C_int D x.Steer p1 c1 ∧ SRc C_ScaleLook D x.Looks p2 c2, by rintro _ _ _ ⟨p1, c1, p2, c2, rfl, _⟩; rfl, by rintro _ _ _ _ hle ⟨p1, c1, p2, c2, rfl, h1, h2⟩; exact ⟨p1, c1, p2, c2, rfl, h1.mono hle, h2.mono hle⟩, by rintro _ _ _ ⟨p1, c1, p2, c2, rfl, _⟩; rfl⟩
theorem C_ScaleBook.open {D : Stab} {x : ScaleBook} {cs : List Value} (h : C_ScaleBook.rep D x cs) : ∃ p1 c1 p2 c2, cs = [iv x.Rule.Fast, iv x.Rule.Slow, iv x.Rule.Jerk, iv x.Rule.Drift.Low, iv x.Rule.Drift.High, iv x.Ticks, .slice p1 x.Steer.length c1, .slice p2 x.Looks.length c2] ∧ SRc C_int D x.Steer p1 c1 ∧ SRc C_ScaleLook D x.Looks p2 c2 := h
structure VoicePiece where
  Words : (List Int)
  Disc : Int
  Begin : Int
  Long : Int
def C_VoicePiece : Codec VoicePiece := ⟨4, fun D x cs => ∃ p1 c1, cs = [.slice p1 x.Words.length c1, iv x.Disc, iv x.Begin, iv x.Long] ∧ SRc C_int D x.Words p1 c1, by rintro _ _ _ ⟨p1, c1, rfl, _⟩; rfl, by rintro _ _ _ _ hle ⟨p1, c1, rfl, h1⟩; exact ⟨p1, c1, rfl, h1.mono hle⟩, by rintro _ _ _ ⟨p1, c1, rfl, _⟩; rfl⟩
theorem C_VoicePiece.open {D : Stab} {x : VoicePiece} {cs : List Value} (h : C_VoicePiece.rep D x cs) : ∃ p1 c1, cs = [.slice p1 x.Words.length c1, iv x.Disc, iv x.Begin, iv x.Long] ∧ SRc C_int D x.Words p1 c1 := h
structure VoiceBook where
  Discs : (List Int)
  Pieces : (List VoicePiece)
  Pause : Span
  Rest : Span
def C_VoiceBook : Codec VoiceBook := ⟨6, fun D x cs => ∃ p1 c1 p2 c2, cs = [.slice p1 x.Discs.length c1, .slice p2 x.Pieces.length c2, iv x.Pause.Low, iv x.Pause.High, iv x.Rest.Low, iv x.Rest.High] ∧ SRc C_int D x.Discs p1 c1 ∧ SRc C_VoicePiece D x.Pieces p2 c2, by rintro _ _ _ ⟨p1, c1, p2, c2, rfl, _⟩; rfl, by rintro _ _ _ _ hle ⟨p1, c1, p2, c2, rfl, h1, h2⟩; exact ⟨p1, c1, p2, c2, rfl, h1.mono hle, h2.mono hle⟩, by rintro _ _ _ ⟨p1, c1, p2, c2, rfl, _⟩; rfl⟩
theorem C_VoiceBook.open {D : Stab} {x : VoiceBook} {cs : List Value} (h : C_VoiceBook.rep D x cs) : ∃ p1 c1 p2 c2, cs = [.slice p1 x.Discs.length c1, .slice p2 x.Pieces.length c2, iv x.Pause.Low, iv x.Pause.High, iv x.Rest.Low, iv x.Rest.High] ∧ SRc C_int D x.Discs p1 c1 ∧ SRc C_VoicePiece D x.Pieces p2 c2 := h
structure voice_book where
  VoiceBook : VoiceBook
  can : (List Bool)
def C_voice_book : Codec voice_book := ⟨16, fun D x cs => ∃ p1 c1 p2 c2, cs = [.slice p1 x.VoiceBook.Discs.length c1, .slice p2 x.VoiceBook.Pieces.length c2, iv x.VoiceBook.Pause.Low, iv x.VoiceBook.Pause.High, iv x.VoiceBook.Rest.Low, iv x.VoiceBook.Rest.High, .bool (x.can.getD 0 false), .bool (x.can.getD 1 false), .bool (x.can.getD 2 false), .bool (x.can.getD 3 false), .bool (x.can.getD 4 false), .bool (x.can.getD 5 false), .bool (x.can.getD 6 false), .bool (x.can.getD 7 false), .bool (x.can.getD 8 false), .bool (x.can.getD 9 false)] ∧ SRc C_int D x.VoiceBook.Discs p1 c1 ∧ SRc C_VoicePiece D x.VoiceBook.Pieces p2 c2 ∧ x.can.length = 10, by rintro _ _ _ ⟨p1, c1, p2, c2, rfl, _⟩; rfl, by rintro _ _ _ _ hle ⟨p1, c1, p2, c2, rfl, h1, h2, h3⟩; exact ⟨p1, c1, p2, c2, rfl, h1.mono hle, h2.mono hle, h3⟩, by rintro _ _ _ ⟨p1, c1, p2, c2, rfl, _⟩; rfl⟩
theorem C_voice_book.open {D : Stab} {x : voice_book} {cs : List Value} (h : C_voice_book.rep D x cs) : ∃ p1 c1 p2 c2, cs = [.slice p1 x.VoiceBook.Discs.length c1, .slice p2 x.VoiceBook.Pieces.length c2, iv x.VoiceBook.Pause.Low, iv x.VoiceBook.Pause.High, iv x.VoiceBook.Rest.Low, iv x.VoiceBook.Rest.High, .bool (x.can.getD 0 false), .bool (x.can.getD 1 false), .bool (x.can.getD 2 false), .bool (x.can.getD 3 false), .bool (x.can.getD 4 false), .bool (x.can.getD 5 false), .bool (x.can.getD 6 false), .bool (x.can.getD 7 false), .bool (x.can.getD 8 false), .bool (x.can.getD 9 false)] ∧ SRc C_int D x.VoiceBook.Discs p1 c1 ∧ SRc C_VoicePiece D x.VoiceBook.Pieces p2 c2 ∧ x.can.length = 10 := h
structure Arr4 where
  a0 : Int
  a1 : Int
  a2 : Int
  a3 : Int
def C_Arr4 : Codec Arr4 := ⟨4, fun _ x cs => cs = [iv x.a0, iv x.a1, iv x.a2, iv x.a3], by rintro _ _ _ rfl; rfl, fun _ h => h, by rintro _ _ _ rfl; rfl⟩
theorem C_Arr4.open {D : Stab} {x : Arr4} {cs : List Value} (h : C_Arr4.rep D x cs) : cs = [iv x.a0, iv x.a1, iv x.a2, iv x.a3] := h
theorem C_Arr4.mk {D : Stab} (x : Arr4) : C_Arr4.rep D x [iv x.a0, iv x.a1, iv x.a2, iv x.a3] := rfl
structure line_side where
  of_ : (Span → Option Int)
structure voice_order where
  better : ((List Int) → (List Int) → Option Bool)
def celN_27 : CelN Span 2 := ⟨kl_27, fun _ => rfl⟩
theorem zc_27 : zeroCells Tryd.prog 27 = some [iv 0, iv 0] := by kernel_rfl
theorem sz_27 : tsz Tryd.prog 27 = some (true, 2) := by kernel_rfl
theorem fo_27_0 : fieldOff Tryd.prog 27 0 = some 0 := by kernel_rfl
theorem sz_3 : tsz Tryd.prog 3 = some (false, 1) := by kernel_rfl
theorem fo_27_1 : fieldOff Tryd.prog 27 1 = some 1 := by kernel_rfl
theorem mixed_ : Tryd.prog.follows .mixedOrders = true := by kernel_rfl
theorem u_30 : Tryd.prog.underlying 30 = some (.slice 3) := by kernel_rfl
theorem ca_41 : callable Tryd.prog 41 = true := by kernel_rfl
theorem ca_8 : callable Tryd.prog 8 = true := by kernel_rfl
theorem fo_25_0 : fieldOff Tryd.prog 25 0 = some 0 := by kernel_rfl
theorem ca_17 : callable Tryd.prog 17 = true := by kernel_rfl
theorem fo_25_1 : fieldOff Tryd.prog 25 1 = some 1 := by kernel_rfl
theorem sz_22 : tsz Tryd.prog 22 = some (false, 1) := by kernel_rfl
theorem u_22 : Tryd.prog.underlying 22 = some (.slice 55) := by kernel_rfl
theorem fo_25_2 : fieldOff Tryd.prog 25 2 = some 2 := by kernel_rfl
theorem fo_25_3 : fieldOff Tryd.prog 25 3 = some 3 := by kernel_rfl
theorem sz_23 : tsz Tryd.prog 23 = some (false, 1) := by kernel_rfl
theorem u_23 : Tryd.prog.underlying 23 = some (.slice 58) := by kernel_rfl
theorem sz_55 : tsz Tryd.prog 55 = some (true, 4) := by kernel_rfl
theorem zc_55 : zeroCells Tryd.prog 55 = some [iv 0, iv 0, iv 0, iv 0] := by kernel_rfl
theorem fo_55_0 : fieldOff Tryd.prog 55 0 = some 0 := by kernel_rfl
theorem fo_55_1 : fieldOff Tryd.prog 55 1 = some 1 := by kernel_rfl
theorem fo_55_2 : fieldOff Tryd.prog 55 2 = some 2 := by kernel_rfl
theorem ca_18 : callable Tryd.prog 18 = true := by kernel_rfl
theorem sz_58 : tsz Tryd.prog 58 = some (true, 3) := by kernel_rfl
theorem zc_58 : zeroCells Tryd.prog 58 = some [iv 0, iv 0, iv 0] := by kernel_rfl
theorem fo_58_0 : fieldOff Tryd.prog 58 0 = some 0 := by kernel_rfl
theorem fo_58_1 : fieldOff Tryd.prog 58 1 = some 1 := by kernel_rfl
theorem zc_124 : zeroCells Tryd.prog 124 = some [.nilFunc] := by kernel_rfl
theorem sz_124 : tsz Tryd.prog 124 = some (true, 1) := by kernel_rfl
theorem fo_86_0 : fieldOff Tryd.prog 86 0 = some 0 := by kernel_rfl
theorem ca_127 : callable Tryd.prog 127 = true := by kernel_rfl
theorem ca_128 : callable Tryd.prog 128 = true := by kernel_rfl
theorem sz_166 : tsz Tryd.prog 166 = some (true, 2) := by kernel_rfl
theorem u_166 : Tryd.prog.underlying 166 = some (.array 2 165) := by kernel_rfl
theorem sz_165 : tsz Tryd.prog 165 = some (false, 1) := by kernel_rfl
theorem sz_86 : tsz Tryd.prog 86 = some (true, 6) := by kernel_rfl
theorem u_3 : Tryd.prog.underlying 3 = some (.int .i64) := by kernel_rfl
theorem sz_149 : tsz Tryd.prog 149 = some (true, 2) := by kernel_rfl
theorem u_84 : Tryd.prog.underlying 84 = some (.map 149 87) := by kernel_rfl
theorem fo_124_0 : fieldOff Tryd.prog 124 0 = some 0 := by kernel_rfl
theorem sz_96 : tsz Tryd.prog 96 = some (false, 1) := by kernel_rfl
theorem gr_30 : growable Tryd.prog 30 3 1 = true := by kernel_rfl
theorem ca_68 : callable Tryd.prog 68 = true := by kernel_rfl
theorem ca_46 : callable Tryd.prog 46 = true := by kernel_rfl
theorem ca_69 : callable Tryd.prog 69 = true := by kernel_rfl
theorem ca_45 : callable Tryd.prog 45 = true := by kernel_rfl
theorem ca_47 : callable Tryd.prog 47 = true := by kernel_rfl
theorem ca_70 : callable Tryd.prog 70 = true := by kernel_rfl
theorem fo_86_2 : fieldOff Tryd.prog 86 2 = some 5 := by kernel_rfl
theorem fo_86_1 : fieldOff Tryd.prog 86 1 = some 4 := by kernel_rfl
theorem sz_84 : tsz Tryd.prog 84 = some (false, 1) := by kernel_rfl
theorem u_87 : Tryd.prog.underlying 87 = some (.slice 30) := by kernel_rfl
theorem ca_93 : callable Tryd.prog 93 = true := by kernel_rfl
theorem ca_82 : callable Tryd.prog 82 = true := by kernel_rfl
theorem ca_66 : callable Tryd.prog 66 = true := by kernel_rfl
theorem ca_67 : callable Tryd.prog 67 = true := by kernel_rfl
theorem sz_147 : tsz Tryd.prog 147 = some (true, 7) := by kernel_rfl
theorem eg_147 : Tryd.prog.eqGuardType Tryd.prog.depth 147 = false := by kernel_rfl
theorem u_147 : Tryd.prog.underlying 147 = some (.array 7 4) := by kernel_rfl
theorem sz_4 : tsz Tryd.prog 4 = some (false, 1) := by kernel_rfl
theorem u_4 : Tryd.prog.underlying 4 = some .bool := by kernel_rfl
theorem sz_30 : tsz Tryd.prog 30 = some (false, 1) := by kernel_rfl
theorem zc_149 : zeroCells Tryd.prog 149 = some [iv 0, iv 0] := by kernel_rfl
theorem gr_87 : growable Tryd.prog 87 30 1 = true := by kernel_rfl
theorem ca_65 : callable Tryd.prog 65 = true := by kernel_rfl
theorem sz_145 : tsz Tryd.prog 145 = some (false, 1) := by kernel_rfl
theorem ca_64 : callable Tryd.prog 64 = true := by kernel_rfl
theorem ca_79 : callable Tryd.prog 79 = true := by kernel_rfl
theorem zc_86 : zeroCells Tryd.prog 86 = some [iv 0, .slice none 0 0, iv 0, .slice none 0 0, .map none, iv 0] := by kernel_rfl
theorem sz_25 : tsz Tryd.prog 25 = some (true, 4) := by kernel_rfl
theorem zc_145 : zeroCells Tryd.prog 145 = some [.nilFunc] := by kernel_rfl
theorem ca_27 : callable Tryd.prog 27 = true := by kernel_rfl
theorem ca_4 : callable Tryd.prog 4 = true := by kernel_rfl
theorem ca_42 : callable Tryd.prog 42 = true := by kernel_rfl
theorem ca_43 : callable Tryd.prog 43 = true := by kernel_rfl
theorem ca_44 : callable Tryd.prog 44 = true := by kernel_rfl
theorem ca_26 : callable Tryd.prog 26 = true := by kernel_rfl
theorem ca_51 : callable Tryd.prog 51 = true := by kernel_rfl
theorem ca_31 : callable Tryd.prog 31 = true := by kernel_rfl
theorem ca_30 : callable Tryd.prog 30 = true := by kernel_rfl
theorem ca_10 : callable Tryd.prog 10 = true := by kernel_rfl
theorem fo_82_0 : fieldOff Tryd.prog 82 0 = some 0 := by kernel_rfl
theorem ca_62 : callable Tryd.prog 62 = true := by kernel_rfl
theorem fo_82_1 : fieldOff Tryd.prog 82 1 = some 1 := by kernel_rfl
theorem sz_76 : tsz Tryd.prog 76 = some (false, 1) := by kernel_rfl
theorem u_76 : Tryd.prog.underlying 76 = some (.slice 27) := by kernel_rfl
theorem fo_82_2 : fieldOff Tryd.prog 82 2 = some 2 := by kernel_rfl
theorem sz_80 : tsz Tryd.prog 80 = some (false, 1) := by kernel_rfl
theorem u_80 : Tryd.prog.underlying 80 = some (.slice 157) := by kernel_rfl
theorem fo_82_3 : fieldOff Tryd.prog 82 3 = some 3 := by kernel_rfl
theorem sz_79 : tsz Tryd.prog 79 = some (false, 1) := by kernel_rfl
theorem u_79 : Tryd.prog.underlying 79 = some (.slice 78) := by kernel_rfl
theorem ca_77 : callable Tryd.prog 77 = true := by kernel_rfl
theorem sz_157 : tsz Tryd.prog 157 = some (true, 4) := by kernel_rfl
theorem zc_157 : zeroCells Tryd.prog 157 = some [iv 0, iv 0, iv 0, iv 0] := by kernel_rfl
theorem fo_157_0 : fieldOff Tryd.prog 157 0 = some 0 := by kernel_rfl
theorem fo_157_1 : fieldOff Tryd.prog 157 1 = some 1 := by kernel_rfl
theorem fo_157_2 : fieldOff Tryd.prog 157 2 = some 2 := by kernel_rfl
theorem sz_78 : tsz Tryd.prog 78 = some (true, 5) := by kernel_rfl
theorem zc_78 : zeroCells Tryd.prog 78 = some [iv 0, iv 0, iv 0, iv 0, iv 0] := by kernel_rfl
theorem fo_78_0 : fieldOff Tryd.prog 78 0 = some 0 := by kernel_rfl
theorem fo_78_1 : fieldOff Tryd.prog 78 1 = some 1 := by kernel_rfl
theorem fo_78_2 : fieldOff Tryd.prog 78 2 = some 2 := by kernel_rfl
theorem fo_78_3 : fieldOff Tryd.prog 78 3 = some 3 := by kernel_rfl
theorem zc_117 : zeroCells Tryd.prog 117 = some [iv 0, iv 0] := by kernel_rfl
theorem sz_117 : tsz Tryd.prog 117 = some (true, 2) := by kernel_rfl
theorem zc_111 : zeroCells Tryd.prog 111 = some [iv 0, .slice none 0 0, .slice none 0 0, .slice none 0 0, iv 0, .map none] := by kernel_rfl
theorem sz_82 : tsz Tryd.prog 82 = some (true, 4) := by kernel_rfl
theorem u_109 : Tryd.prog.underlying 109 = some (.map 117 3) := by kernel_rfl
theorem sz_111 : tsz Tryd.prog 111 = some (true, 6) := by kernel_rfl
theorem fo_111_2 : fieldOff Tryd.prog 111 2 = some 5 := by kernel_rfl
theorem sz_109 : tsz Tryd.prog 109 = some (false, 1) := by kernel_rfl
theorem fo_111_0 : fieldOff Tryd.prog 111 0 = some 0 := by kernel_rfl
theorem ca_123 : callable Tryd.prog 123 = true := by kernel_rfl
theorem ca_122 : callable Tryd.prog 122 = true := by kernel_rfl
theorem gr_159 : growable Tryd.prog 159 163 5 = true := by kernel_rfl
theorem fo_111_1 : fieldOff Tryd.prog 111 1 = some 4 := by kernel_rfl
theorem ca_126 : callable Tryd.prog 126 = true := by kernel_rfl
theorem zc_159 : zeroCells Tryd.prog 159 = some [.slice none 0 0] := by kernel_rfl
theorem zc_3 : zeroCells Tryd.prog 3 = some [iv 0] := by kernel_rfl
theorem ca_124 : callable Tryd.prog 124 = true := by kernel_rfl
theorem ca_78 : callable Tryd.prog 78 = true := by kernel_rfl
theorem sz_159 : tsz Tryd.prog 159 = some (false, 1) := by kernel_rfl
theorem ca_125 : callable Tryd.prog 125 = true := by kernel_rfl
theorem ca_119 : callable Tryd.prog 119 = true := by kernel_rfl
theorem ca_120 : callable Tryd.prog 120 = true := by kernel_rfl
theorem ca_121 : callable Tryd.prog 121 = true := by kernel_rfl
theorem zc_142 : zeroCells Tryd.prog 142 = some (arr celI (List.replicate 66 (0 : Int))) := by kernel_rfl
theorem u_142 : Tryd.prog.underlying 142 = some (.array 66 3) := by kernel_rfl
theorem sz_161 : tsz Tryd.prog 161 = some (true, 3) := by kernel_rfl
theorem u_161 : Tryd.prog.underlying 161 = some (.array 3 160) := by kernel_rfl
theorem sz_160 : tsz Tryd.prog 160 = some (false, 1) := by kernel_rfl
theorem sz_142 : tsz Tryd.prog 142 = some (true, 66) := by kernel_rfl
theorem u_159 : Tryd.prog.underlying 159 = some (.slice 163) := by kernel_rfl
theorem sz_163 : tsz Tryd.prog 163 = some (true, 5) := by kernel_rfl
theorem zc_163 : zeroCells Tryd.prog 163 = some [iv 0, iv 0, iv 0, iv 0, iv 0] := by kernel_rfl
theorem fo_163_1 : fieldOff Tryd.prog 163 1 = some 2 := by kernel_rfl
theorem fo_163_0 : fieldOff Tryd.prog 163 0 = some 0 := by kernel_rfl
theorem fo_163_2 : fieldOff Tryd.prog 163 2 = some 4 := by kernel_rfl
theorem eg_142 : Tryd.prog.eqGuardType Tryd.prog.depth 142 = false := by kernel_rfl
theorem ca_63 : callable Tryd.prog 63 = true := by kernel_rfl
theorem ca_59 : callable Tryd.prog 59 = true := by kernel_rfl
theorem ca_60 : callable Tryd.prog 60 = true := by kernel_rfl
theorem ca_61 : callable Tryd.prog 61 = true := by kernel_rfl
theorem ca_39 : callable Tryd.prog 39 = true := by kernel_rfl
theorem ca_38 : callable Tryd.prog 38 = true := by kernel_rfl
theorem ca_40 : callable Tryd.prog 40 = true := by kernel_rfl
theorem fo_29_0 : fieldOff Tryd.prog 29 0 = some 0 := by kernel_rfl
theorem ca_20 : callable Tryd.prog 20 = true := by kernel_rfl
theorem fo_29_1 : fieldOff Tryd.prog 29 1 = some 1 := by kernel_rfl
theorem fo_29_2 : fieldOff Tryd.prog 29 2 = some 2 := by kernel_rfl
theorem fo_29_3 : fieldOff Tryd.prog 29 3 = some 3 := by kernel_rfl
theorem zc_61 : zeroCells Tryd.prog 61 = some [iv 0, iv 0, iv 0, iv 0, iv 0, .map none] := by kernel_rfl
theorem sz_29 : tsz Tryd.prog 29 = some (true, 5) := by kernel_rfl
theorem ca_32 : callable Tryd.prog 32 = true := by kernel_rfl
theorem sz_61 : tsz Tryd.prog 61 = some (true, 6) := by kernel_rfl
theorem fo_61_0 : fieldOff Tryd.prog 61 0 = some 0 := by kernel_rfl
theorem fo_33_0 : fieldOff Tryd.prog 33 0 = some 0 := by kernel_rfl
theorem ca_19 : callable Tryd.prog 19 = true := by kernel_rfl
theorem fo_33_1 : fieldOff Tryd.prog 33 1 = some 5 := by kernel_rfl
theorem fo_33_2 : fieldOff Tryd.prog 33 2 = some 6 := by kernel_rfl
theorem ca_21 : callable Tryd.prog 21 = true := by kernel_rfl
theorem fo_33_3 : fieldOff Tryd.prog 33 3 = some 7 := by kernel_rfl
theorem sz_31 : tsz Tryd.prog 31 = some (false, 1) := by kernel_rfl
theorem u_31 : Tryd.prog.underlying 31 = some (.slice 66) := by kernel_rfl
theorem sz_66 : tsz Tryd.prog 66 = some (true, 3) := by kernel_rfl
theorem zc_66 : zeroCells Tryd.prog 66 = some [iv 0, iv 0, iv 0] := by kernel_rfl
theorem fo_66_0 : fieldOff Tryd.prog 66 0 = some 0 := by kernel_rfl
theorem fo_66_1 : fieldOff Tryd.prog 66 1 = some 1 := by kernel_rfl
theorem zc_93 : zeroCells Tryd.prog 93 = some (arrN celN_27 (List.replicate 61 (Span.mk 0 0))) := by kernel_rfl
theorem u_93 : Tryd.prog.underlying 93 = some (.array 61 27) := by kernel_rfl
theorem ca_71 : callable Tryd.prog 71 = true := by kernel_rfl
theorem sz_93 : tsz Tryd.prog 93 = some (true, 122) := by kernel_rfl
theorem eg_93 : Tryd.prog.eqGuardType Tryd.prog.depth 93 = false := by kernel_rfl
theorem ca_72 : callable Tryd.prog 72 = true := by kernel_rfl
theorem sz_33 : tsz Tryd.prog 33 = some (true, 8) := by kernel_rfl
theorem ca_5 : callable Tryd.prog 5 = true := by kernel_rfl
theorem ca_48 : callable Tryd.prog 48 = true := by kernel_rfl
theorem ca_28 : callable Tryd.prog 28 = true := by kernel_rfl
theorem zc_129 : zeroCells Tryd.prog 129 = some [.nilFunc] := by kernel_rfl
theorem sz_129 : tsz Tryd.prog 129 = some (true, 1) := by kernel_rfl
theorem fo_129_0 : fieldOff Tryd.prog 129 0 = some 0 := by kernel_rfl
theorem ca_49 : callable Tryd.prog 49 = true := by kernel_rfl
theorem ca_50 : callable Tryd.prog 50 = true := by kernel_rfl
theorem ca_11 : callable Tryd.prog 11 = true := by kernel_rfl
theorem ca_29 : callable Tryd.prog 29 = true := by kernel_rfl
theorem ca_52 : callable Tryd.prog 52 = true := by kernel_rfl
theorem ca_73 : callable Tryd.prog 73 = true := by kernel_rfl
theorem ca_55 : callable Tryd.prog 55 = true := by kernel_rfl
theorem ca_54 : callable Tryd.prog 54 = true := by kernel_rfl
theorem fo_73_0 : fieldOff Tryd.prog 73 0 = some 0 := by kernel_rfl
theorem fo_73_1 : fieldOff Tryd.prog 73 1 = some 1 := by kernel_rfl
theorem sz_71 : tsz Tryd.prog 71 = some (false, 1) := by kernel_rfl
theorem u_71 : Tryd.prog.underlying 71 = some (.slice 70) := by kernel_rfl
theorem fo_73_2 : fieldOff Tryd.prog 73 2 = some 2 := by kernel_rfl
theorem ca_53 : callable Tryd.prog 53 = true := by kernel_rfl
theorem fo_73_3 : fieldOff Tryd.prog 73 3 = some 4 := by kernel_rfl
theorem sz_70 : tsz Tryd.prog 70 = some (true, 4) := by kernel_rfl
theorem zc_70 : zeroCells Tryd.prog 70 = some [.slice none 0 0, iv 0, iv 0, iv 0] := by kernel_rfl
theorem fo_70_0 : fieldOff Tryd.prog 70 0 = some 0 := by kernel_rfl
theorem ca_34 : callable Tryd.prog 34 = true := by kernel_rfl
theorem fo_70_1 : fieldOff Tryd.prog 70 1 = some 1 := by kernel_rfl
theorem fo_70_2 : fieldOff Tryd.prog 70 2 = some 2 := by kernel_rfl
theorem fo_70_3 : fieldOff Tryd.prog 70 3 = some 3 := by kernel_rfl
theorem zc_105 : zeroCells Tryd.prog 105 = some [.slice none 0 0, .slice none 0 0, iv 0, iv 0, iv 0, iv 0, .bool ((List.replicate 10 false).getD 0 false), .bool ((List.replicate 10 false).getD 1 false), .bool ((List.replicate 10 false).getD 2 false), .bool ((List.replicate 10 false).getD 3 false), .bool ((List.replicate 10 false).getD 4 false), .bool ((List.replicate 10 false).getD 5 false), .bool ((List.replicate 10 false).getD 6 false), .bool ((List.replicate 10 false).getD 7 false), .bool ((List.replicate 10 false).getD 8 false), .bool ((List.replicate 10 false).getD 9 false)] := by kernel_rfl
theorem sz_73 : tsz Tryd.prog 73 = some (true, 6) := by kernel_rfl
theorem sz_105 : tsz Tryd.prog 105 = some (true, 16) := by kernel_rfl
theorem fo_105_1 : fieldOff Tryd.prog 105 1 = some 6 := by kernel_rfl
theorem u_103 : Tryd.prog.underlying 103 = some (.array 10 4) := by kernel_rfl
theorem zc_133 : zeroCells Tryd.prog 133 = some [.nilFunc] := by kernel_rfl
theorem sz_133 : tsz Tryd.prog 133 = some (true, 1) := by kernel_rfl
theorem fo_105_0 : fieldOff Tryd.prog 105 0 = some 0 := by kernel_rfl
theorem ca_76 : callable Tryd.prog 76 = true := by kernel_rfl
theorem u_135 : Tryd.prog.underlying 135 = some (.map 3 30) := by kernel_rfl
theorem sz_135 : tsz Tryd.prog 135 = some (false, 1) := by kernel_rfl
theorem zc_30 : zeroCells Tryd.prog 30 = some [.slice none 0 0] := by kernel_rfl
theorem ca_58 : callable Tryd.prog 58 = true := by kernel_rfl
theorem sz_136 : tsz Tryd.prog 136 = some (false, 1) := by kernel_rfl
theorem ca_57 : callable Tryd.prog 57 = true := by kernel_rfl
theorem fo_133_0 : fieldOff Tryd.prog 133 0 = some 0 := by kernel_rfl
theorem sz_83 : tsz Tryd.prog 83 = some (false, 1) := by kernel_rfl
theorem ca_75 : callable Tryd.prog 75 = true := by kernel_rfl
theorem ca_56 : callable Tryd.prog 56 = true := by kernel_rfl
theorem zc_135 : zeroCells Tryd.prog 135 = some [.map none] := by kernel_rfl
theorem zc_136 : zeroCells Tryd.prog 136 = some [.nilFunc] := by kernel_rfl
theorem ca_74 : callable Tryd.prog 74 = true := by kernel_rfl
theorem ca_33 : callable Tryd.prog 33 = true := by kernel_rfl
theorem ca_36 : callable Tryd.prog 36 = true := by kernel_rfl
theorem ca_35 : callable Tryd.prog 35 = true := by kernel_rfl
theorem ca_37 : callable Tryd.prog 37 = true := by kernel_rfl
theorem ca_22 : callable Tryd.prog 22 = true := by kernel_rfl
theorem ca_23 : callable Tryd.prog 23 = true := by kernel_rfl
theorem ca_9 : callable Tryd.prog 9 = true := by kernel_rfl
theorem ca_12 : callable Tryd.prog 12 = true := by kernel_rfl
theorem gr_76 : growable Tryd.prog 76 27 2 = true := by kernel_rfl
theorem ca_24 : callable Tryd.prog 24 = true := by kernel_rfl
theorem ca_25 : callable Tryd.prog 25 = true := by kernel_rfl
theorem eg_27 : Tryd.prog.eqGuardType Tryd.prog.depth 27 = false := by kernel_rfl
theorem ca_6 : callable Tryd.prog 6 = true := by kernel_rfl
theorem ca_7 : callable Tryd.prog 7 = true := by kernel_rfl
theorem u_34 : Tryd.prog.underlying 34 = some (.array 4 3) := by kernel_rfl
theorem ca_13 : callable Tryd.prog 13 = true := by kernel_rfl
theorem ca_14 : callable Tryd.prog 14 = true := by kernel_rfl
theorem ca_15 : callable Tryd.prog 15 = true := by kernel_rfl
theorem ca_16 : callable Tryd.prog 16 = true := by kernel_rfl
theorem cz_3 : Tryd.prog.cellsOf 3 = 1 := by kernel_rfl
theorem ft_27 : Tryd.prog.underlying 27 = some (.struct (Tryd.prog.fieldsOf 27)) := by kernel_rfl
theorem cz_27 : Tryd.prog.cellsOf 27 = 2 := by kernel_rfl
theorem ft_55 : Tryd.prog.underlying 55 = some (.struct (Tryd.prog.fieldsOf 55)) := by kernel_rfl
theorem cz_55 : Tryd.prog.cellsOf 55 = 4 := by kernel_rfl
theorem cz_22 : Tryd.prog.cellsOf 22 = 1 := by kernel_rfl
theorem ft_58 : Tryd.prog.underlying 58 = some (.struct (Tryd.prog.fieldsOf 58)) := by kernel_rfl
theorem cz_58 : Tryd.prog.cellsOf 58 = 3 := by kernel_rfl
theorem cz_23 : Tryd.prog.cellsOf 23 = 1 := by kernel_rfl
theorem ft_25 : Tryd.prog.underlying 25 = some (.struct (Tryd.prog.fieldsOf 25)) := by kernel_rfl
theorem cz_25 : Tryd.prog.cellsOf 25 = 4 := by kernel_rfl
theorem ft_29 : Tryd.prog.underlying 29 = some (.struct (Tryd.prog.fieldsOf 29)) := by kernel_rfl
theorem cz_29 : Tryd.prog.cellsOf 29 = 5 := by kernel_rfl
theorem cz_30 : Tryd.prog.cellsOf 30 = 1 := by kernel_rfl
theorem ft_66 : Tryd.prog.underlying 66 = some (.struct (Tryd.prog.fieldsOf 66)) := by kernel_rfl
theorem cz_66 : Tryd.prog.cellsOf 66 = 3 := by kernel_rfl
theorem cz_31 : Tryd.prog.cellsOf 31 = 1 := by kernel_rfl
theorem ft_33 : Tryd.prog.underlying 33 = some (.struct (Tryd.prog.fieldsOf 33)) := by kernel_rfl
theorem cz_33 : Tryd.prog.cellsOf 33 = 8 := by kernel_rfl
theorem cz_34 : Tryd.prog.cellsOf 34 = 4 := by kernel_rfl
theorem eqT_149 : EqT Tryd.prog 149 true 2 2 := EqT.struct sz_149 (by kernel_rfl) (by kernel_rfl) (fl := [(false, 3, 0), (false, 3, 1)]) (by kernel_rfl) ⟨rfl, rfl, false, 1, EqT.int u_3 sz_3, rfl, rfl, false, 1, EqT.int u_3 sz_3, rfl⟩
theorem ckT_149 : CkT Tryd.prog 149 true 2 2 := CkT.struct sz_149 (by kernel_rfl) (fl := [(false, 3, 0), (false, 3, 1)]) (by kernel_rfl) ⟨rfl, rfl, false, 1, CkT.int u_3 sz_3, rfl, rfl, false, 1, CkT.int u_3 sz_3, rfl⟩
theorem mt_84 : MapT Tryd.prog 84 149 87 2 false [.slice none 0 0] := MapT.mk' u_84 (by kernel_rfl) eqT_149 (by decide) ckT_149 (by decide) (by kernel_rfl)
theorem eqT_117 : EqT Tryd.prog 117 true 2 2 := EqT.struct sz_117 (by kernel_rfl) (by kernel_rfl) (fl := [(false, 3, 0), (false, 3, 1)]) (by kernel_rfl) ⟨rfl, rfl, false, 1, EqT.int u_3 sz_3, rfl, rfl, false, 1, EqT.int u_3 sz_3, rfl⟩
theorem ckT_117 : CkT Tryd.prog 117 true 2 2 := CkT.struct sz_117 (by kernel_rfl) (fl := [(false, 3, 0), (false, 3, 1)]) (by kernel_rfl) ⟨rfl, rfl, false, 1, CkT.int u_3 sz_3, rfl, rfl, false, 1, CkT.int u_3 sz_3, rfl⟩
theorem mt_109 : MapT Tryd.prog 109 117 3 2 false [iv 0] := MapT.mk' u_109 (by kernel_rfl) eqT_117 (by decide) ckT_117 (by decide) (by kernel_rfl)
theorem eqT_27 : EqT Tryd.prog 27 true 2 2 := EqT.struct sz_27 (by kernel_rfl) (by kernel_rfl) (fl := [(false, 3, 0), (false, 3, 1)]) (by kernel_rfl) ⟨rfl, rfl, false, 1, EqT.int u_3 sz_3, rfl, rfl, false, 1, EqT.int u_3 sz_3, rfl⟩
theorem mt_135 : MapTI Tryd.prog 135 3 30 false [.slice none 0 0] := MapTI.mk' u_135 u_3 (by kernel_rfl)
def FnOk_96 (w0 : World) (D0 : Stab) (fid : FuncId) (first cap : List Value) (f : (Span → Option Int)) : Prop := callable Tryd.prog fid = true ∧ ∀ (w : World) (D : Stab), Below w0.heap.size w0 w → D0.le D → D.on w → ∀ (z : Span) (r : Int), f z = some r → Calls Tryd.prog fid (first ++ ([.agg #[iv z.Low, iv z.High]] : List Value) ++ cap).toArray w (RetP D w (iv r : Value))
def FnOk_64 (w0 : World) (D0 : Stab) (fid : FuncId) (first cap : List Value) (f : ((List Int) → Option Bool)) : Prop := callable Tryd.prog fid = true ∧ ∀ (w : World) (D : Stab), Below w0.heap.size w0 w → D0.le D → D.on w → ∀ (z : (List Int)) (p : Option Addr) (c : Nat) (hs : SRc C_int D z p c) (r : Bool), f z = some r → Calls Tryd.prog fid (first ++ ([.slice p z.length c] : List Value) ++ cap).toArray w (RetP D w (.bool r : Value))
def FnOk_120 (w0 : World) (D0 : Stab) (fid : FuncId) (first cap : List Value) (f : (Int → Option Bool)) : Prop := callable Tryd.prog fid = true ∧ ∀ (w : World) (D : Stab), Below w0.heap.size w0 w → D0.le D → D.on w → ∀ (z : Int) (r : Bool), f z = some r → Calls Tryd.prog fid (first ++ ([iv z] : List Value) ++ cap).toArray w (RetP D w (.bool r : Value))
def FnOk_83 (w0 : World) (D0 : Stab) (fid : FuncId) (first cap : List Value) (f : ((List Int) → (List Int) → Option Bool)) : Prop := callable Tryd.prog fid = true ∧ ∀ (w : World) (D : Stab), Below w0.heap.size w0 w → D0.le D → D.on w → ∀ (z : (List Int)) (z_1 : (List Int)) (p : Option Addr) (c : Nat) (p_1 : Option Addr) (c_1 : Nat) (hs : SRc C_int D z p c) (hs_1 : SRc C_int D z_1 p_1 c_1) (r : Bool), f z z_1 = some r → Calls Tryd.prog fid (first ++ ([.slice p z.length c, .slice p_1 z_1.length c_1] : List Value) ++ cap).toArray w (RetP D w (.bool r : Value))
end Go.Proofs.YtgdfljiliflhfaaDoor.Rt
