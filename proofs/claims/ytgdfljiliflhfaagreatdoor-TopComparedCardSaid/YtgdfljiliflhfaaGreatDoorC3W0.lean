/- Walks of the functions of this seat: what each Go function comes to, as a Lean function, and the proof. Types and facts. Under no conditions. -/
import Derived.Test.YtgdfljiliflhfaaGreatDoorC3Rt30
import Derived.Test.YtgdfljiliflhfaaGreatDoorProg
set_option linter.unusedVariables false
set_option linter.unusedSimpArgs false
set_option maxRecDepth 100000
set_option maxHeartbeats 4000000
namespace Go.Proofs.YtgdfljiliflhfaaGreatDoor.Rt
open Go Go.RowKit
def tab_0:List Value:=[.func (.func 126) #[] #[],.func (.func 127) #[] #[],.func (.func 128) #[] #[]]
def Glob_0 (D:Stab):Prop:=∃ E fr,D 0=some (.cells tab_0.toArray E fr)
theorem Glob_0.mono {D D':Stab} (h:Glob_0 D) (hle:D.le D'):Glob_0 D':=by obtain ⟨E,fr,h⟩:=h;exact ⟨E,fr,hle _ _ h⟩
def tab_1:List Value:=[.func (.func 134) #[] #[],.func (.func 135) #[] #[]]
def Glob_1 (D:Stab):Prop:=∃ E fr,D 1=some (.cells tab_1.toArray E fr)
theorem Glob_1.mono {D D':Stab} (h:Glob_1 D) (hle:D.le D'):Glob_1 D':=by obtain ⟨E,fr,h⟩:=h;exact ⟨E,fr,hle _ _ h⟩
def Glob (D:Stab):Prop:=Glob_0 D∧Glob_1 D
theorem Glob.mono {D D':Stab} (h:Glob D) (hle:D.le D'):Glob D':=by obtain ⟨h0,h1⟩:=h;exact ⟨h0.mono hle,h1.mono hle⟩
structure Span where
  Low:Int
  High:Int
def kl_27 (x:Span):List Int:=[x.Low,x.High]
def C_Span:Codec Span:=⟨2,fun _ x cs=>cs=[iv x.Low,iv x.High],by rintro _ _ _ rfl;rfl,fun _ h=>h,by rintro _ _ _ rfl;rfl⟩
theorem C_Span.open {D:Stab} {x:Span} {cs:List Value} (h:C_Span.rep D x cs):cs=[iv x.Low,iv x.High]:=h
theorem C_Span.mk {D:Stab} (x:Span):C_Span.rep D x [iv x.Low,iv x.High]:=rfl
structure LineLine where
  From:Int
  To:Int
  Delay:Span
def C_LineLine:Codec LineLine:=⟨4,fun _ x cs=>cs=[iv x.From,iv x.To,iv x.Delay.Low,iv x.Delay.High],by rintro _ _ _ rfl;rfl,fun _ h=>h,by rintro _ _ _ rfl;rfl⟩
theorem C_LineLine.open {D:Stab} {x:LineLine} {cs:List Value} (h:C_LineLine.rep D x cs):cs=[iv x.From,iv x.To,iv x.Delay.Low,iv x.Delay.High]:=h
theorem C_LineLine.mk {D:Stab} (x:LineLine):C_LineLine.rep D x [iv x.From,iv x.To,iv x.Delay.Low,iv x.Delay.High]:=rfl
structure LineLoop where
  Exchange:Int
  Read:Span
def C_LineLoop:Codec LineLoop:=⟨3,fun _ x cs=>cs=[iv x.Exchange,iv x.Read.Low,iv x.Read.High],by rintro _ _ _ rfl;rfl,fun _ h=>h,by rintro _ _ _ rfl;rfl⟩
theorem C_LineLoop.open {D:Stab} {x:LineLoop} {cs:List Value} (h:C_LineLoop.rep D x cs):cs=[iv x.Exchange,iv x.Read.Low,iv x.Read.High]:=h
theorem C_LineLoop.mk {D:Stab} (x:LineLoop):C_LineLoop.rep D x [iv x.Exchange,iv x.Read.Low,iv x.Read.High]:=rfl
structure LineNet where
  Exchanges:Int
  Lines:(List LineLine)
  Hops:Int
  Loops:(List LineLoop)
def C_LineNet:Codec LineNet:=⟨4,fun D x cs=>∃ p1 c1 p2 c2,cs=[iv x.Exchanges,.slice p1 x.Lines.length c1,iv x.Hops,.slice p2 x.Loops.length c2]∧SRc C_LineLine D x.Lines p1 c1∧SRc C_LineLoop D x.Loops p2 c2,by rintro _ _ _ ⟨p1,c1,p2,c2,rfl,_⟩;rfl,by rintro _ _ _ _ hle ⟨p1,c1,p2,c2,rfl,h1,h2⟩;exact ⟨p1,c1,p2,c2,rfl,h1.mono hle,h2.mono hle⟩,by rintro _ _ _ ⟨p1,c1,p2,c2,rfl,_⟩;rfl⟩
theorem C_LineNet.open {D:Stab} {x:LineNet} {cs:List Value} (h:C_LineNet.rep D x cs):∃ p1 c1 p2 c2,cs=[iv x.Exchanges,.slice p1 x.Lines.length c1,iv x.Hops,.slice p2 x.Loops.length c2]∧SRc C_LineLine D x.Lines p1 c1∧SRc C_LineLoop D x.Loops p2 c2:=h
structure line_kind where
  exchange:Int
  lines:Int
def kl_154 (x:line_kind):List Int:=[x.exchange,x.lines]
def C_line_kind:Codec line_kind:=⟨2,fun _ x cs=>cs=[iv x.exchange,iv x.lines],by rintro _ _ _ rfl;rfl,fun _ h=>h,by rintro _ _ _ rfl;rfl⟩
theorem C_line_kind.open {D:Stab} {x:line_kind} {cs:List Value} (h:C_line_kind.rep D x cs):cs=[iv x.exchange,iv x.lines]:=h
theorem C_line_kind.mk {D:Stab} (x:line_kind):C_line_kind.rep D x [iv x.exchange,iv x.lines]:=rfl
structure line_net where
  LineNet:LineNet
  ways:(List (line_kind × (List (List Int))))
  left:Int
def C_line_net:Codec line_net:=⟨6,fun D x cs=>∃ p1 c1 p2 c2 b3,cs=[iv x.LineNet.Exchanges,.slice p1 x.LineNet.Lines.length c1,iv x.LineNet.Hops,.slice p2 x.LineNet.Loops.length c2,.map b3,iv x.left]∧SRc C_LineLine D x.LineNet.Lines p1 c1∧SRc C_LineLoop D x.LineNet.Loops p2 c2∧MapB kl_154 (C_sl (C_sl C_int)) false D x.ways b3,by rintro _ _ _ ⟨p1,c1,p2,c2,b3,rfl,_⟩;rfl,by rintro _ _ _ _ hle ⟨p1,c1,p2,c2,b3,rfl,h1,h2,h3⟩;exact ⟨p1,c1,p2,c2,b3,rfl,h1.mono hle,h2.mono hle,h3.mono hle⟩,by rintro _ _ _ ⟨p1,c1,p2,c2,b3,rfl,_⟩;rfl⟩
theorem C_line_net.open {D:Stab} {x:line_net} {cs:List Value} (h:C_line_net.rep D x cs):∃ p1 c1 p2 c2 b3,cs=[iv x.LineNet.Exchanges,.slice p1 x.LineNet.Lines.length c1,iv x.LineNet.Hops,.slice p2 x.LineNet.Loops.length c2,.map b3,iv x.left]∧SRc C_LineLine D x.LineNet.Lines p1 c1∧SRc C_LineLoop D x.LineNet.Loops p2 c2∧MapB kl_154 (C_sl (C_sl C_int)) false D x.ways b3:=h
structure BeatOpen where
  Clock:Int
  Hour:Int
  Step:Span
def C_BeatOpen:Codec BeatOpen:=⟨4,fun _ x cs=>cs=[iv x.Clock,iv x.Hour,iv x.Step.Low,iv x.Step.High],by rintro _ _ _ rfl;rfl,fun _ h=>h,by rintro _ _ _ rfl;rfl⟩
theorem C_BeatOpen.open {D:Stab} {x:BeatOpen} {cs:List Value} (h:C_BeatOpen.rep D x cs):cs=[iv x.Clock,iv x.Hour,iv x.Step.Low,iv x.Step.High]:=h
theorem C_BeatOpen.mk {D:Stab} (x:BeatOpen):C_BeatOpen.rep D x [iv x.Clock,iv x.Hour,iv x.Step.Low,iv x.Step.High]:=rfl
structure BeatPair where
  Hour:Int
  One:Int
  Other:Int
  Read:Span
def C_BeatPair:Codec BeatPair:=⟨5,fun _ x cs=>cs=[iv x.Hour,iv x.One,iv x.Other,iv x.Read.Low,iv x.Read.High],by rintro _ _ _ rfl;rfl,fun _ h=>h,by rintro _ _ _ rfl;rfl⟩
theorem C_BeatPair.open {D:Stab} {x:BeatPair} {cs:List Value} (h:C_BeatPair.rep D x cs):cs=[iv x.Hour,iv x.One,iv x.Other,iv x.Read.Low,iv x.Read.High]:=h
theorem C_BeatPair.mk {D:Stab} (x:BeatPair):C_BeatPair.rep D x [iv x.Hour,iv x.One,iv x.Other,iv x.Read.Low,iv x.Read.High]:=rfl
structure BeatCellar where
  Hours:Int
  Rates:(List Span)
  Opens:(List BeatOpen)
  Pairs:(List BeatPair)
def C_BeatCellar:Codec BeatCellar:=⟨4,fun D x cs=>∃ p1 c1 p2 c2 p3 c3,cs=[iv x.Hours,.slice p1 x.Rates.length c1,.slice p2 x.Opens.length c2,.slice p3 x.Pairs.length c3]∧SRc C_Span D x.Rates p1 c1∧SRc C_BeatOpen D x.Opens p2 c2∧SRc C_BeatPair D x.Pairs p3 c3,by rintro _ _ _ ⟨p1,c1,p2,c2,p3,c3,rfl,_⟩;rfl,by rintro _ _ _ _ hle ⟨p1,c1,p2,c2,p3,c3,rfl,h1,h2,h3⟩;exact ⟨p1,c1,p2,c2,p3,c3,rfl,h1.mono hle,h2.mono hle,h3.mono hle⟩,by rintro _ _ _ ⟨p1,c1,p2,c2,p3,c3,rfl,_⟩;rfl⟩
theorem C_BeatCellar.open {D:Stab} {x:BeatCellar} {cs:List Value} (h:C_BeatCellar.rep D x cs):∃ p1 c1 p2 c2 p3 c3,cs=[iv x.Hours,.slice p1 x.Rates.length c1,.slice p2 x.Opens.length c2,.slice p3 x.Pairs.length c3]∧SRc C_Span D x.Rates p1 c1∧SRc C_BeatOpen D x.Opens p2 c2∧SRc C_BeatPair D x.Pairs p3 c3:=h
structure beat_spot where
  clock:Int
  hour:Int
def kl_99 (x:beat_spot):List Int:=[x.clock,x.hour]
def C_beat_spot:Codec beat_spot:=⟨2,fun _ x cs=>cs=[iv x.clock,iv x.hour],by rintro _ _ _ rfl;rfl,fun _ h=>h,by rintro _ _ _ rfl;rfl⟩
theorem C_beat_spot.open {D:Stab} {x:beat_spot} {cs:List Value} (h:C_beat_spot.rep D x cs):cs=[iv x.clock,iv x.hour]:=h
theorem C_beat_spot.mk {D:Stab} (x:beat_spot):C_beat_spot.rep D x [iv x.clock,iv x.hour]:=rfl
structure beat_bound where
  of_:beat_spot
  over:beat_spot
  by_:Int
def C_beat_bound:Codec beat_bound:=⟨5,fun _ x cs=>cs=[iv x.of_.clock,iv x.of_.hour,iv x.over.clock,iv x.over.hour,iv x.by_],by rintro _ _ _ rfl;rfl,fun _ h=>h,by rintro _ _ _ rfl;rfl⟩
theorem C_beat_bound.open {D:Stab} {x:beat_bound} {cs:List Value} (h:C_beat_bound.rep D x cs):cs=[iv x.of_.clock,iv x.of_.hour,iv x.over.clock,iv x.over.hour,iv x.by_]:=h
theorem C_beat_bound.mk {D:Stab} (x:beat_bound):C_beat_bound.rep D x [iv x.of_.clock,iv x.of_.hour,iv x.over.clock,iv x.over.hour,iv x.by_]:=rfl
structure beat_cellar where
  BeatCellar:BeatCellar
  left:Int
  place:(List (beat_spot × Int))
def C_beat_cellar:Codec beat_cellar:=⟨6,fun D x cs=>∃ p1 c1 p2 c2 p3 c3 b4,cs=[iv x.BeatCellar.Hours,.slice p1 x.BeatCellar.Rates.length c1,.slice p2 x.BeatCellar.Opens.length c2,.slice p3 x.BeatCellar.Pairs.length c3,iv x.left,.map b4]∧SRc C_Span D x.BeatCellar.Rates p1 c1∧SRc C_BeatOpen D x.BeatCellar.Opens p2 c2∧SRc C_BeatPair D x.BeatCellar.Pairs p3 c3∧MapB kl_99 C_int false D x.place b4,by rintro _ _ _ ⟨p1,c1,p2,c2,p3,c3,b4,rfl,_⟩;rfl,by rintro _ _ _ _ hle ⟨p1,c1,p2,c2,p3,c3,b4,rfl,h1,h2,h3,h4⟩;exact ⟨p1,c1,p2,c2,p3,c3,b4,rfl,h1.mono hle,h2.mono hle,h3.mono hle,h4.mono hle⟩,by rintro _ _ _ ⟨p1,c1,p2,c2,p3,c3,b4,rfl,_⟩;rfl⟩
theorem C_beat_cellar.open {D:Stab} {x:beat_cellar} {cs:List Value} (h:C_beat_cellar.rep D x cs):∃ p1 c1 p2 c2 p3 c3 b4,cs=[iv x.BeatCellar.Hours,.slice p1 x.BeatCellar.Rates.length c1,.slice p2 x.BeatCellar.Opens.length c2,.slice p3 x.BeatCellar.Pairs.length c3,iv x.left,.map b4]∧SRc C_Span D x.BeatCellar.Rates p1 c1∧SRc C_BeatOpen D x.BeatCellar.Opens p2 c2∧SRc C_BeatPair D x.BeatCellar.Pairs p3 c3∧MapB kl_99 C_int false D x.place b4:=h
structure ScaleRule where
  Fast:Int
  Slow:Int
  Jerk:Int
  Drift:Span
def C_ScaleRule:Codec ScaleRule:=⟨5,fun _ x cs=>cs=[iv x.Fast,iv x.Slow,iv x.Jerk,iv x.Drift.Low,iv x.Drift.High],by rintro _ _ _ rfl;rfl,fun _ h=>h,by rintro _ _ _ rfl;rfl⟩
theorem C_ScaleRule.open {D:Stab} {x:ScaleRule} {cs:List Value} (h:C_ScaleRule.rep D x cs):cs=[iv x.Fast,iv x.Slow,iv x.Jerk,iv x.Drift.Low,iv x.Drift.High]:=h
theorem C_ScaleRule.mk {D:Stab} (x:ScaleRule):C_ScaleRule.rep D x [iv x.Fast,iv x.Slow,iv x.Jerk,iv x.Drift.Low,iv x.Drift.High]:=rfl
structure scale_part where
  ticks:Int
  way:Int
def kl_213 (x:scale_part):List Int:=[x.ticks,x.way]
def C_scale_part:Codec scale_part:=⟨2,fun _ x cs=>cs=[iv x.ticks,iv x.way],by rintro _ _ _ rfl;rfl,fun _ h=>h,by rintro _ _ _ rfl;rfl⟩
theorem C_scale_part.open {D:Stab} {x:scale_part} {cs:List Value} (h:C_scale_part.rep D x cs):cs=[iv x.ticks,iv x.way]:=h
theorem C_scale_part.mk {D:Stab} (x:scale_part):C_scale_part.rep D x [iv x.ticks,iv x.way]:=rfl
structure scale_rule where
  ScaleRule:ScaleRule
  known:(List (scale_part × Int))
def C_scale_rule:Codec scale_rule:=⟨6,fun D x cs=>∃ b1,cs=[iv x.ScaleRule.Fast,iv x.ScaleRule.Slow,iv x.ScaleRule.Jerk,iv x.ScaleRule.Drift.Low,iv x.ScaleRule.Drift.High,.map b1]∧MapB kl_213 C_int false D x.known b1,by rintro _ _ _ ⟨b1,rfl,_⟩;rfl,by rintro _ _ _ _ hle ⟨b1,rfl,h1⟩;exact ⟨b1,rfl,h1.mono hle⟩,by rintro _ _ _ ⟨b1,rfl,_⟩;rfl⟩
theorem C_scale_rule.open {D:Stab} {x:scale_rule} {cs:List Value} (h:C_scale_rule.rep D x cs):∃ b1,cs=[iv x.ScaleRule.Fast,iv x.ScaleRule.Slow,iv x.ScaleRule.Jerk,iv x.ScaleRule.Drift.Low,iv x.ScaleRule.Drift.High,.map b1]∧MapB kl_213 C_int false D x.known b1:=h
structure ScaleLook where
  Tick:Int
  Off:Span
def C_ScaleLook:Codec ScaleLook:=⟨3,fun _ x cs=>cs=[iv x.Tick,iv x.Off.Low,iv x.Off.High],by rintro _ _ _ rfl;rfl,fun _ h=>h,by rintro _ _ _ rfl;rfl⟩
theorem C_ScaleLook.open {D:Stab} {x:ScaleLook} {cs:List Value} (h:C_ScaleLook.rep D x cs):cs=[iv x.Tick,iv x.Off.Low,iv x.Off.High]:=h
theorem C_ScaleLook.mk {D:Stab} (x:ScaleLook):C_ScaleLook.rep D x [iv x.Tick,iv x.Off.Low,iv x.Off.High]:=rfl
structure ScaleBook where
  Rule:ScaleRule
  Ticks:Int
  Steer:(List Int)
  Looks:(List ScaleLook)
def C_ScaleBook:Codec ScaleBook:=⟨8,fun D x cs=>∃ p1 c1 p2 c2,cs=[iv x.Rule.Fast,iv x.Rule.Slow,iv x.Rule.Jerk,iv x.Rule.Drift.Low,iv x.Rule.Drift.High,iv x.Ticks,.slice p1 x.Steer.length c1,.slice p2 x.Looks.length c2]∧SRc C_int D x.Steer p1 c1∧SRc C_ScaleLook D x.Looks p2 c2,by rintro _ _ _ ⟨p1,c1,p2,c2,rfl,_⟩;rfl,by rintro _ _ _ _ hle ⟨p1,c1,p2,c2,rfl,h1,h2⟩;exact ⟨p1,c1,p2,c2,rfl,h1.mono hle,h2.mono hle⟩,by rintro _ _ _ ⟨p1,c1,p2,c2,rfl,_⟩;rfl⟩
theorem C_ScaleBook.open {D:Stab} {x:ScaleBook} {cs:List Value} (h:C_ScaleBook.rep D x cs):∃ p1 c1 p2 c2,cs=[iv x.Rule.Fast,iv x.Rule.Slow,iv x.Rule.Jerk,iv x.Rule.Drift.Low,iv x.Rule.Drift.High,iv x.Ticks,.slice p1 x.Steer.length c1,.slice p2 x.Looks.length c2]∧SRc C_int D x.Steer p1 c1∧SRc C_ScaleLook D x.Looks p2 c2:=h
structure VoicePiece where
  Words:(List Int)
  Disc:Int
  Begin:Int
  Long:Int
def C_VoicePiece:Codec VoicePiece:=⟨4,fun D x cs=>∃ p1 c1,cs=[.slice p1 x.Words.length c1,iv x.Disc,iv x.Begin,iv x.Long]∧SRc C_int D x.Words p1 c1,by rintro _ _ _ ⟨p1,c1,rfl,_⟩;rfl,by rintro _ _ _ _ hle ⟨p1,c1,rfl,h1⟩;exact ⟨p1,c1,rfl,h1.mono hle⟩,by rintro _ _ _ ⟨p1,c1,rfl,_⟩;rfl⟩
theorem C_VoicePiece.open {D:Stab} {x:VoicePiece} {cs:List Value} (h:C_VoicePiece.rep D x cs):∃ p1 c1,cs=[.slice p1 x.Words.length c1,iv x.Disc,iv x.Begin,iv x.Long]∧SRc C_int D x.Words p1 c1:=h
structure VoiceBook where
  Discs:(List Int)
  Pieces:(List VoicePiece)
  Pause:Span
  Rest:Span
def C_VoiceBook:Codec VoiceBook:=⟨6,fun D x cs=>∃ p1 c1 p2 c2,cs=[.slice p1 x.Discs.length c1,.slice p2 x.Pieces.length c2,iv x.Pause.Low,iv x.Pause.High,iv x.Rest.Low,iv x.Rest.High]∧SRc C_int D x.Discs p1 c1∧SRc C_VoicePiece D x.Pieces p2 c2,by rintro _ _ _ ⟨p1,c1,p2,c2,rfl,_⟩;rfl,by rintro _ _ _ _ hle ⟨p1,c1,p2,c2,rfl,h1,h2⟩;exact ⟨p1,c1,p2,c2,rfl,h1.mono hle,h2.mono hle⟩,by rintro _ _ _ ⟨p1,c1,p2,c2,rfl,_⟩;rfl⟩
theorem C_VoiceBook.open {D:Stab} {x:VoiceBook} {cs:List Value} (h:C_VoiceBook.rep D x cs):∃ p1 c1 p2 c2,cs=[.slice p1 x.Discs.length c1,.slice p2 x.Pieces.length c2,iv x.Pause.Low,iv x.Pause.High,iv x.Rest.Low,iv x.Rest.High]∧SRc C_int D x.Discs p1 c1∧SRc C_VoicePiece D x.Pieces p2 c2:=h
structure voice_book where
  VoiceBook:VoiceBook
  can:(List Bool)
def C_voice_book:Codec voice_book:=⟨16,fun D x cs=>∃ p1 c1 p2 c2,cs=[.slice p1 x.VoiceBook.Discs.length c1,.slice p2 x.VoiceBook.Pieces.length c2,iv x.VoiceBook.Pause.Low,iv x.VoiceBook.Pause.High,iv x.VoiceBook.Rest.Low,iv x.VoiceBook.Rest.High,.bool (x.can.getD 0 false),.bool (x.can.getD 1 false),.bool (x.can.getD 2 false),.bool (x.can.getD 3 false),.bool (x.can.getD 4 false),.bool (x.can.getD 5 false),.bool (x.can.getD 6 false),.bool (x.can.getD 7 false),.bool (x.can.getD 8 false),.bool (x.can.getD 9 false)]∧SRc C_int D x.VoiceBook.Discs p1 c1∧SRc C_VoicePiece D x.VoiceBook.Pieces p2 c2∧x.can.length=10,by rintro _ _ _ ⟨p1,c1,p2,c2,rfl,_⟩;rfl,by rintro _ _ _ _ hle ⟨p1,c1,p2,c2,rfl,h1,h2,h3⟩;exact ⟨p1,c1,p2,c2,rfl,h1.mono hle,h2.mono hle,h3⟩,by rintro _ _ _ ⟨p1,c1,p2,c2,rfl,_⟩;rfl⟩
theorem C_voice_book.open {D:Stab} {x:voice_book} {cs:List Value} (h:C_voice_book.rep D x cs):∃ p1 c1 p2 c2,cs=[.slice p1 x.VoiceBook.Discs.length c1,.slice p2 x.VoiceBook.Pieces.length c2,iv x.VoiceBook.Pause.Low,iv x.VoiceBook.Pause.High,iv x.VoiceBook.Rest.Low,iv x.VoiceBook.Rest.High,.bool (x.can.getD 0 false),.bool (x.can.getD 1 false),.bool (x.can.getD 2 false),.bool (x.can.getD 3 false),.bool (x.can.getD 4 false),.bool (x.can.getD 5 false),.bool (x.can.getD 6 false),.bool (x.can.getD 7 false),.bool (x.can.getD 8 false),.bool (x.can.getD 9 false)]∧SRc C_int D x.VoiceBook.Discs p1 c1∧SRc C_VoicePiece D x.VoiceBook.Pieces p2 c2∧x.can.length=10:=h
structure Arr2_Span where
  a0:Span
  a1:Span
def C_Arr2_Span:Codec Arr2_Span:=⟨4,fun _ x cs=>cs=[iv x.a0.Low,iv x.a0.High,iv x.a1.Low,iv x.a1.High],by rintro _ _ _ rfl;rfl,fun _ h=>h,by rintro _ _ _ rfl;rfl⟩
theorem C_Arr2_Span.open {D:Stab} {x:Arr2_Span} {cs:List Value} (h:C_Arr2_Span.rep D x cs):cs=[iv x.a0.Low,iv x.a0.High,iv x.a1.Low,iv x.a1.High]:=h
theorem C_Arr2_Span.mk {D:Stab} (x:Arr2_Span):C_Arr2_Span.rep D x [iv x.a0.Low,iv x.a0.High,iv x.a1.Low,iv x.a1.High]:=rfl
structure Arr4 where
  a0:Int
  a1:Int
  a2:Int
  a3:Int
def C_Arr4:Codec Arr4:=⟨4,fun _ x cs=>cs=[iv x.a0,iv x.a1,iv x.a2,iv x.a3],by rintro _ _ _ rfl;rfl,fun _ h=>h,by rintro _ _ _ rfl;rfl⟩
theorem C_Arr4.open {D:Stab} {x:Arr4} {cs:List Value} (h:C_Arr4.rep D x cs):cs=[iv x.a0,iv x.a1,iv x.a2,iv x.a3]:=h
theorem C_Arr4.mk {D:Stab} (x:Arr4):C_Arr4.rep D x [iv x.a0,iv x.a1,iv x.a2,iv x.a3]:=rfl
structure line_side where
  of_:(Span→Option Int)
structure voice_order where
  better:((List Int)→(List Int)→Option Bool)
def celN_27:CelN Span 2:=⟨kl_27,fun _=>rfl⟩
theorem zc_27:zeroCells Tryz.prog 27=some [iv 0,iv 0]:=by kernel_rfl
theorem sz_27:tsz Tryz.prog 27=some (true,2):=by kernel_rfl
theorem fo_27_0:fieldOff Tryz.prog 27 0=some 0:=by kernel_rfl
theorem sz_3:tsz Tryz.prog 3=some (false,1):=by kernel_rfl
theorem fo_27_1:fieldOff Tryz.prog 27 1=some 1:=by kernel_rfl
theorem mixed_:Tryz.prog.follows .mixedOrders=true:=by kernel_rfl
theorem u_30:Tryz.prog.underlying 30=some (.slice 3):=by kernel_rfl
theorem ca_49:callable Tryz.prog 49=true:=by kernel_rfl
theorem ca_9:callable Tryz.prog 9=true:=by kernel_rfl
theorem ca_6:callable Tryz.prog 6=true:=by kernel_rfl
theorem fo_25_0:fieldOff Tryz.prog 25 0=some 0:=by kernel_rfl
theorem ca_19:callable Tryz.prog 19=true:=by kernel_rfl
theorem fo_25_1:fieldOff Tryz.prog 25 1=some 1:=by kernel_rfl
theorem sz_22:tsz Tryz.prog 22=some (false,1):=by kernel_rfl
theorem u_22:Tryz.prog.underlying 22=some (.slice 60):=by kernel_rfl
theorem fo_25_2:fieldOff Tryz.prog 25 2=some 2:=by kernel_rfl
theorem fo_25_3:fieldOff Tryz.prog 25 3=some 3:=by kernel_rfl
theorem sz_23:tsz Tryz.prog 23=some (false,1):=by kernel_rfl
theorem u_23:Tryz.prog.underlying 23=some (.slice 62):=by kernel_rfl
theorem sz_60:tsz Tryz.prog 60=some (true,4):=by kernel_rfl
theorem zc_60:zeroCells Tryz.prog 60=some [iv 0,iv 0,iv 0,iv 0]:=by kernel_rfl
theorem fo_60_0:fieldOff Tryz.prog 60 0=some 0:=by kernel_rfl
theorem fo_60_1:fieldOff Tryz.prog 60 1=some 1:=by kernel_rfl
theorem fo_60_2:fieldOff Tryz.prog 60 2=some 2:=by kernel_rfl
theorem ca_20:callable Tryz.prog 20=true:=by kernel_rfl
theorem sz_62:tsz Tryz.prog 62=some (true,3):=by kernel_rfl
theorem zc_62:zeroCells Tryz.prog 62=some [iv 0,iv 0,iv 0]:=by kernel_rfl
theorem fo_62_0:fieldOff Tryz.prog 62 0=some 0:=by kernel_rfl
theorem fo_62_1:fieldOff Tryz.prog 62 1=some 1:=by kernel_rfl
theorem zc_129:zeroCells Tryz.prog 129=some [.nilFunc]:=by kernel_rfl
theorem sz_129:tsz Tryz.prog 129=some (true,1):=by kernel_rfl
theorem fo_85_0:fieldOff Tryz.prog 85 0=some 0:=by kernel_rfl
theorem ca_134:callable Tryz.prog 134=true:=by kernel_rfl
theorem ca_135:callable Tryz.prog 135=true:=by kernel_rfl
theorem sz_164:tsz Tryz.prog 164=some (true,2):=by kernel_rfl
theorem u_164:Tryz.prog.underlying 164=some (.array 2 163):=by kernel_rfl
theorem sz_163:tsz Tryz.prog 163=some (false,1):=by kernel_rfl
theorem sz_85:tsz Tryz.prog 85=some (true,6):=by kernel_rfl
theorem u_3:Tryz.prog.underlying 3=some (.int .i64):=by kernel_rfl
theorem sz_154:tsz Tryz.prog 154=some (true,2):=by kernel_rfl
theorem u_83:Tryz.prog.underlying 83=some (.map 154 45):=by kernel_rfl
theorem fo_129_0:fieldOff Tryz.prog 129 0=some 0:=by kernel_rfl
theorem sz_123:tsz Tryz.prog 123=some (false,1):=by kernel_rfl
theorem gr_30:growable Tryz.prog 30 3 1=true:=by kernel_rfl
theorem ca_73:callable Tryz.prog 73=true:=by kernel_rfl
theorem ca_54:callable Tryz.prog 54=true:=by kernel_rfl
theorem ca_74:callable Tryz.prog 74=true:=by kernel_rfl
theorem ca_53:callable Tryz.prog 53=true:=by kernel_rfl
theorem ca_55:callable Tryz.prog 55=true:=by kernel_rfl
theorem ca_75:callable Tryz.prog 75=true:=by kernel_rfl
theorem fo_85_2:fieldOff Tryz.prog 85 2=some 5:=by kernel_rfl
theorem fo_85_1:fieldOff Tryz.prog 85 1=some 4:=by kernel_rfl
theorem sz_83:tsz Tryz.prog 83=some (false,1):=by kernel_rfl
theorem u_45:Tryz.prog.underlying 45=some (.slice 30):=by kernel_rfl
theorem ca_99:callable Tryz.prog 99=true:=by kernel_rfl
theorem ca_84:callable Tryz.prog 84=true:=by kernel_rfl
theorem ca_71:callable Tryz.prog 71=true:=by kernel_rfl
theorem ca_72:callable Tryz.prog 72=true:=by kernel_rfl
theorem sz_152:tsz Tryz.prog 152=some (true,7):=by kernel_rfl
theorem eg_152:Tryz.prog.eqGuardType Tryz.prog.depth 152=false:=by kernel_rfl
theorem u_152:Tryz.prog.underlying 152=some (.array 7 4):=by kernel_rfl
theorem sz_4:tsz Tryz.prog 4=some (false,1):=by kernel_rfl
theorem u_4:Tryz.prog.underlying 4=some .bool:=by kernel_rfl
theorem sz_30:tsz Tryz.prog 30=some (false,1):=by kernel_rfl
theorem zc_154:zeroCells Tryz.prog 154=some [iv 0,iv 0]:=by kernel_rfl
theorem gr_45:growable Tryz.prog 45 30 1=true:=by kernel_rfl
theorem ca_70:callable Tryz.prog 70=true:=by kernel_rfl
theorem sz_150:tsz Tryz.prog 150=some (false,1):=by kernel_rfl
theorem ca_69:callable Tryz.prog 69=true:=by kernel_rfl
theorem ca_81:callable Tryz.prog 81=true:=by kernel_rfl
theorem zc_85:zeroCells Tryz.prog 85=some [iv 0,.slice none 0 0,iv 0,.slice none 0 0,.map none,iv 0]:=by kernel_rfl
theorem sz_25:tsz Tryz.prog 25=some (true,4):=by kernel_rfl
theorem zc_150:zeroCells Tryz.prog 150=some [.nilFunc]:=by kernel_rfl
theorem ca_28:callable Tryz.prog 28=true:=by kernel_rfl
theorem ca_4:callable Tryz.prog 4=true:=by kernel_rfl
theorem ca_50:callable Tryz.prog 50=true:=by kernel_rfl
theorem ca_51:callable Tryz.prog 51=true:=by kernel_rfl
theorem ca_52:callable Tryz.prog 52=true:=by kernel_rfl
theorem ca_27:callable Tryz.prog 27=true:=by kernel_rfl
theorem ca_56:callable Tryz.prog 56=true:=by kernel_rfl
theorem ca_30:callable Tryz.prog 30=true:=by kernel_rfl
theorem ca_29:callable Tryz.prog 29=true:=by kernel_rfl
theorem ca_10:callable Tryz.prog 10=true:=by kernel_rfl
theorem ca_57:callable Tryz.prog 57=true:=by kernel_rfl
theorem fo_35_0:fieldOff Tryz.prog 35 0=some 0:=by kernel_rfl
theorem ca_21:callable Tryz.prog 21=true:=by kernel_rfl
theorem fo_35_1:fieldOff Tryz.prog 35 1=some 1:=by kernel_rfl
theorem sz_31:tsz Tryz.prog 31=some (false,1):=by kernel_rfl
theorem u_31:Tryz.prog.underlying 31=some (.slice 27):=by kernel_rfl
theorem fo_35_2:fieldOff Tryz.prog 35 2=some 2:=by kernel_rfl
theorem sz_32:tsz Tryz.prog 32=some (false,1):=by kernel_rfl
theorem u_32:Tryz.prog.underlying 32=some (.slice 64):=by kernel_rfl
theorem fo_35_3:fieldOff Tryz.prog 35 3=some 3:=by kernel_rfl
theorem sz_33:tsz Tryz.prog 33=some (false,1):=by kernel_rfl
theorem u_33:Tryz.prog.underlying 33=some (.slice 52):=by kernel_rfl
theorem ca_22:callable Tryz.prog 22=true:=by kernel_rfl
theorem sz_64:tsz Tryz.prog 64=some (true,4):=by kernel_rfl
theorem zc_64:zeroCells Tryz.prog 64=some [iv 0,iv 0,iv 0,iv 0]:=by kernel_rfl
theorem fo_64_0:fieldOff Tryz.prog 64 0=some 0:=by kernel_rfl
theorem fo_64_1:fieldOff Tryz.prog 64 1=some 1:=by kernel_rfl
theorem fo_64_2:fieldOff Tryz.prog 64 2=some 2:=by kernel_rfl
theorem sz_52:tsz Tryz.prog 52=some (true,5):=by kernel_rfl
theorem zc_52:zeroCells Tryz.prog 52=some [iv 0,iv 0,iv 0,iv 0,iv 0]:=by kernel_rfl
theorem fo_52_0:fieldOff Tryz.prog 52 0=some 0:=by kernel_rfl
theorem fo_52_1:fieldOff Tryz.prog 52 1=some 1:=by kernel_rfl
theorem fo_52_2:fieldOff Tryz.prog 52 2=some 2:=by kernel_rfl
theorem fo_52_3:fieldOff Tryz.prog 52 3=some 3:=by kernel_rfl
theorem zc_99:zeroCells Tryz.prog 99=some [iv 0,iv 0]:=by kernel_rfl
theorem sz_99:tsz Tryz.prog 99=some (true,2):=by kernel_rfl
theorem zc_96:zeroCells Tryz.prog 96=some [iv 0,.slice none 0 0,.slice none 0 0,.slice none 0 0,iv 0,.map none]:=by kernel_rfl
theorem sz_35:tsz Tryz.prog 35=some (true,4):=by kernel_rfl
theorem u_94:Tryz.prog.underlying 94=some (.map 99 3):=by kernel_rfl
theorem sz_96:tsz Tryz.prog 96=some (true,6):=by kernel_rfl
theorem fo_96_2:fieldOff Tryz.prog 96 2=some 5:=by kernel_rfl
theorem sz_94:tsz Tryz.prog 94=some (false,1):=by kernel_rfl
theorem fo_96_0:fieldOff Tryz.prog 96 0=some 0:=by kernel_rfl
theorem ca_130:callable Tryz.prog 130=true:=by kernel_rfl
theorem ca_129:callable Tryz.prog 129=true:=by kernel_rfl
theorem gr_104:growable Tryz.prog 104 106 5=true:=by kernel_rfl
theorem fo_96_1:fieldOff Tryz.prog 96 1=some 4:=by kernel_rfl
theorem ca_133:callable Tryz.prog 133=true:=by kernel_rfl
theorem zc_104:zeroCells Tryz.prog 104=some [.slice none 0 0]:=by kernel_rfl
theorem zc_3:zeroCells Tryz.prog 3=some [iv 0]:=by kernel_rfl
theorem ca_131:callable Tryz.prog 131=true:=by kernel_rfl
theorem ca_36:callable Tryz.prog 36=true:=by kernel_rfl
theorem sz_104:tsz Tryz.prog 104=some (false,1):=by kernel_rfl
theorem ca_132:callable Tryz.prog 132=true:=by kernel_rfl
theorem ca_126:callable Tryz.prog 126=true:=by kernel_rfl
theorem ca_127:callable Tryz.prog 127=true:=by kernel_rfl
theorem ca_128:callable Tryz.prog 128=true:=by kernel_rfl
theorem zc_134:zeroCells Tryz.prog 134=some (arr celI (List.replicate 66 (0:Int))):=by kernel_rfl
theorem u_134:Tryz.prog.underlying 134=some (.array 66 3):=by kernel_rfl
theorem sz_103:tsz Tryz.prog 103=some (true,3):=by kernel_rfl
theorem u_103:Tryz.prog.underlying 103=some (.array 3 102):=by kernel_rfl
theorem sz_102:tsz Tryz.prog 102=some (false,1):=by kernel_rfl
theorem sz_134:tsz Tryz.prog 134=some (true,66):=by kernel_rfl
theorem u_104:Tryz.prog.underlying 104=some (.slice 106):=by kernel_rfl
theorem sz_106:tsz Tryz.prog 106=some (true,5):=by kernel_rfl
theorem zc_106:zeroCells Tryz.prog 106=some [iv 0,iv 0,iv 0,iv 0,iv 0]:=by kernel_rfl
theorem fo_106_1:fieldOff Tryz.prog 106 1=some 2:=by kernel_rfl
theorem fo_106_0:fieldOff Tryz.prog 106 0=some 0:=by kernel_rfl
theorem fo_106_2:fieldOff Tryz.prog 106 2=some 4:=by kernel_rfl
theorem eg_134:Tryz.prog.eqGuardType Tryz.prog.depth 134=false:=by kernel_rfl
theorem ca_58:callable Tryz.prog 58=true:=by kernel_rfl
theorem ca_5:callable Tryz.prog 5=true:=by kernel_rfl
theorem ca_34:callable Tryz.prog 34=true:=by kernel_rfl
theorem ca_38:callable Tryz.prog 38=true:=by kernel_rfl
theorem ca_40:callable Tryz.prog 40=true:=by kernel_rfl
theorem ca_39:callable Tryz.prog 39=true:=by kernel_rfl
theorem ca_41:callable Tryz.prog 41=true:=by kernel_rfl
theorem eg_99:Tryz.prog.eqGuardType Tryz.prog.depth 99=false:=by kernel_rfl
theorem sz_45:tsz Tryz.prog 45=some (false,1):=by kernel_rfl
theorem fo_99_0:fieldOff Tryz.prog 99 0=some 0:=by kernel_rfl
theorem fo_99_1:fieldOff Tryz.prog 99 1=some 1:=by kernel_rfl
theorem ca_31:callable Tryz.prog 31=true:=by kernel_rfl
theorem ca_33:callable Tryz.prog 33=true:=by kernel_rfl
theorem ca_32:callable Tryz.prog 32=true:=by kernel_rfl
theorem ca_35:callable Tryz.prog 35=true:=by kernel_rfl
theorem sz_107:tsz Tryz.prog 107=some (false,1):=by kernel_rfl
theorem ca_37:callable Tryz.prog 37=true:=by kernel_rfl
theorem zc_107:zeroCells Tryz.prog 107=some [.nilFunc]:=by kernel_rfl
theorem fo_76_0:fieldOff Tryz.prog 76 0=some 0:=by kernel_rfl
theorem ca_66:callable Tryz.prog 66=true:=by kernel_rfl
theorem fo_76_1:fieldOff Tryz.prog 76 1=some 1:=by kernel_rfl
theorem fo_76_2:fieldOff Tryz.prog 76 2=some 2:=by kernel_rfl
theorem fo_76_3:fieldOff Tryz.prog 76 3=some 3:=by kernel_rfl
theorem zc_170:zeroCells Tryz.prog 170=some [iv 0,iv 0,iv 0,iv 0,iv 0,.map none]:=by kernel_rfl
theorem sz_76:tsz Tryz.prog 76=some (true,5):=by kernel_rfl
theorem ca_100:callable Tryz.prog 100=true:=by kernel_rfl
theorem sz_170:tsz Tryz.prog 170=some (true,6):=by kernel_rfl
theorem fo_170_0:fieldOff Tryz.prog 170 0=some 0:=by kernel_rfl
theorem fo_81_0:fieldOff Tryz.prog 81 0=some 0:=by kernel_rfl
theorem ca_85:callable Tryz.prog 85=true:=by kernel_rfl
theorem fo_81_1:fieldOff Tryz.prog 81 1=some 5:=by kernel_rfl
theorem fo_81_2:fieldOff Tryz.prog 81 2=some 6:=by kernel_rfl
theorem ca_86:callable Tryz.prog 86=true:=by kernel_rfl
theorem fo_81_3:fieldOff Tryz.prog 81 3=some 7:=by kernel_rfl
theorem sz_79:tsz Tryz.prog 79=some (false,1):=by kernel_rfl
theorem u_79:Tryz.prog.underlying 79=some (.slice 78):=by kernel_rfl
theorem sz_78:tsz Tryz.prog 78=some (true,3):=by kernel_rfl
theorem zc_78:zeroCells Tryz.prog 78=some [iv 0,iv 0,iv 0]:=by kernel_rfl
theorem fo_78_0:fieldOff Tryz.prog 78 0=some 0:=by kernel_rfl
theorem fo_78_1:fieldOff Tryz.prog 78 1=some 1:=by kernel_rfl
theorem zc_145:zeroCells Tryz.prog 145=some (arrN celN_27 (List.replicate 61 (Span.mk 0 0))):=by kernel_rfl
theorem u_145:Tryz.prog.underlying 145=some (.array 61 27):=by kernel_rfl
theorem ca_87:callable Tryz.prog 87=true:=by kernel_rfl
theorem sz_145:tsz Tryz.prog 145=some (true,122):=by kernel_rfl
theorem eg_145:Tryz.prog.eqGuardType Tryz.prog.depth 145=false:=by kernel_rfl
theorem ca_88:callable Tryz.prog 88=true:=by kernel_rfl
theorem sz_81:tsz Tryz.prog 81=some (true,8):=by kernel_rfl
theorem ca_79:callable Tryz.prog 79=true:=by kernel_rfl
theorem ca_80:callable Tryz.prog 80=true:=by kernel_rfl
theorem ca_65:callable Tryz.prog 65=true:=by kernel_rfl
theorem zc_149:zeroCells Tryz.prog 149=some [.nilFunc]:=by kernel_rfl
theorem sz_149:tsz Tryz.prog 149=some (true,1):=by kernel_rfl
theorem fo_149_0:fieldOff Tryz.prog 149 0=some 0:=by kernel_rfl
theorem ca_67:callable Tryz.prog 67=true:=by kernel_rfl
theorem ca_68:callable Tryz.prog 68=true:=by kernel_rfl
theorem ca_47:callable Tryz.prog 47=true:=by kernel_rfl
theorem ca_48:callable Tryz.prog 48=true:=by kernel_rfl
theorem ca_59:callable Tryz.prog 59=true:=by kernel_rfl
theorem ca_61:callable Tryz.prog 61=true:=by kernel_rfl
theorem fo_70_0:fieldOff Tryz.prog 70 0=some 0:=by kernel_rfl
theorem fo_70_1:fieldOff Tryz.prog 70 1=some 1:=by kernel_rfl
theorem sz_68:tsz Tryz.prog 68=some (false,1):=by kernel_rfl
theorem u_68:Tryz.prog.underlying 68=some (.slice 67):=by kernel_rfl
theorem fo_70_2:fieldOff Tryz.prog 70 2=some 2:=by kernel_rfl
theorem ca_60:callable Tryz.prog 60=true:=by kernel_rfl
theorem fo_70_3:fieldOff Tryz.prog 70 3=some 4:=by kernel_rfl
theorem sz_67:tsz Tryz.prog 67=some (true,4):=by kernel_rfl
theorem zc_67:zeroCells Tryz.prog 67=some [.slice none 0 0,iv 0,iv 0,iv 0]:=by kernel_rfl
theorem fo_67_0:fieldOff Tryz.prog 67 0=some 0:=by kernel_rfl
theorem ca_43:callable Tryz.prog 43=true:=by kernel_rfl
theorem fo_67_1:fieldOff Tryz.prog 67 1=some 1:=by kernel_rfl
theorem fo_67_2:fieldOff Tryz.prog 67 2=some 2:=by kernel_rfl
theorem fo_67_3:fieldOff Tryz.prog 67 3=some 3:=by kernel_rfl
theorem zc_118:zeroCells Tryz.prog 118=some [.slice none 0 0,.slice none 0 0,iv 0,iv 0,iv 0,iv 0,.bool ((List.replicate 10 false).getD 0 false),.bool ((List.replicate 10 false).getD 1 false),.bool ((List.replicate 10 false).getD 2 false),.bool ((List.replicate 10 false).getD 3 false),.bool ((List.replicate 10 false).getD 4 false),.bool ((List.replicate 10 false).getD 5 false),.bool ((List.replicate 10 false).getD 6 false),.bool ((List.replicate 10 false).getD 7 false),.bool ((List.replicate 10 false).getD 8 false),.bool ((List.replicate 10 false).getD 9 false)]:=by kernel_rfl
theorem sz_70:tsz Tryz.prog 70=some (true,6):=by kernel_rfl
theorem sz_118:tsz Tryz.prog 118=some (true,16):=by kernel_rfl
theorem fo_118_1:fieldOff Tryz.prog 118 1=some 6:=by kernel_rfl
theorem u_116:Tryz.prog.underlying 116=some (.array 10 4):=by kernel_rfl
theorem zc_138:zeroCells Tryz.prog 138=some [.nilFunc]:=by kernel_rfl
theorem sz_138:tsz Tryz.prog 138=some (true,1):=by kernel_rfl
theorem fo_118_0:fieldOff Tryz.prog 118 0=some 0:=by kernel_rfl
theorem ca_78:callable Tryz.prog 78=true:=by kernel_rfl
theorem u_140:Tryz.prog.underlying 140=some (.map 3 30):=by kernel_rfl
theorem sz_140:tsz Tryz.prog 140=some (false,1):=by kernel_rfl
theorem zc_30:zeroCells Tryz.prog 30=some [.slice none 0 0]:=by kernel_rfl
theorem ca_64:callable Tryz.prog 64=true:=by kernel_rfl
theorem sz_141:tsz Tryz.prog 141=some (false,1):=by kernel_rfl
theorem ca_63:callable Tryz.prog 63=true:=by kernel_rfl
theorem fo_138_0:fieldOff Tryz.prog 138 0=some 0:=by kernel_rfl
theorem sz_82:tsz Tryz.prog 82=some (false,1):=by kernel_rfl
theorem ca_77:callable Tryz.prog 77=true:=by kernel_rfl
theorem ca_62:callable Tryz.prog 62=true:=by kernel_rfl
theorem zc_140:zeroCells Tryz.prog 140=some [.map none]:=by kernel_rfl
theorem zc_141:zeroCells Tryz.prog 141=some [.nilFunc]:=by kernel_rfl
theorem ca_76:callable Tryz.prog 76=true:=by kernel_rfl
theorem ca_42:callable Tryz.prog 42=true:=by kernel_rfl
theorem ca_45:callable Tryz.prog 45=true:=by kernel_rfl
theorem ca_44:callable Tryz.prog 44=true:=by kernel_rfl
theorem ca_46:callable Tryz.prog 46=true:=by kernel_rfl
theorem ca_23:callable Tryz.prog 23=true:=by kernel_rfl
theorem ca_12:callable Tryz.prog 12=true:=by kernel_rfl
theorem ca_24:callable Tryz.prog 24=true:=by kernel_rfl
theorem ca_25:callable Tryz.prog 25=true:=by kernel_rfl
theorem gr_31:growable Tryz.prog 31 27 2=true:=by kernel_rfl
theorem ca_17:callable Tryz.prog 17=true:=by kernel_rfl
theorem ca_26:callable Tryz.prog 26=true:=by kernel_rfl
theorem eg_27:Tryz.prog.eqGuardType Tryz.prog.depth 27=false:=by kernel_rfl
theorem u_28:Tryz.prog.underlying 28=some (.array 2 27):=by kernel_rfl
theorem zc_35:zeroCells Tryz.prog 35=some [iv 0,.slice none 0 0,.slice none 0 0,.slice none 0 0]:=by kernel_rfl
theorem ca_7:callable Tryz.prog 7=true:=by kernel_rfl
theorem ca_8:callable Tryz.prog 8=true:=by kernel_rfl
theorem u_29:Tryz.prog.underlying 29=some (.array 4 3):=by kernel_rfl
theorem ca_11:callable Tryz.prog 11=true:=by kernel_rfl
theorem ca_13:callable Tryz.prog 13=true:=by kernel_rfl
theorem gr_33:growable Tryz.prog 33 52 5=true:=by kernel_rfl
theorem ca_14:callable Tryz.prog 14=true:=by kernel_rfl
theorem ca_15:callable Tryz.prog 15=true:=by kernel_rfl
theorem ca_16:callable Tryz.prog 16=true:=by kernel_rfl
theorem ca_18:callable Tryz.prog 18=true:=by kernel_rfl
theorem cz_3:Tryz.prog.cellsOf 3=1:=by kernel_rfl
theorem ft_27:Tryz.prog.underlying 27=some (.struct (Tryz.prog.fieldsOf 27)):=by kernel_rfl
theorem cz_27:Tryz.prog.cellsOf 27=2:=by kernel_rfl
theorem ft_60:Tryz.prog.underlying 60=some (.struct (Tryz.prog.fieldsOf 60)):=by kernel_rfl
theorem cz_60:Tryz.prog.cellsOf 60=4:=by kernel_rfl
theorem cz_22:Tryz.prog.cellsOf 22=1:=by kernel_rfl
theorem ft_62:Tryz.prog.underlying 62=some (.struct (Tryz.prog.fieldsOf 62)):=by kernel_rfl
theorem cz_62:Tryz.prog.cellsOf 62=3:=by kernel_rfl
theorem cz_23:Tryz.prog.cellsOf 23=1:=by kernel_rfl
theorem ft_25:Tryz.prog.underlying 25=some (.struct (Tryz.prog.fieldsOf 25)):=by kernel_rfl
theorem cz_25:Tryz.prog.cellsOf 25=4:=by kernel_rfl
theorem cz_28:Tryz.prog.cellsOf 28=4:=by kernel_rfl
theorem cz_29:Tryz.prog.cellsOf 29=4:=by kernel_rfl
theorem eqT_154:EqT Tryz.prog 154 true 2 2:=EqT.struct sz_154 (by kernel_rfl) (by kernel_rfl) (fl:=[(false,3,0),(false,3,1)]) (by kernel_rfl) ⟨rfl,rfl,false,1,EqT.int u_3 sz_3,rfl,rfl,false,1,EqT.int u_3 sz_3,rfl⟩
theorem ckT_154:CkT Tryz.prog 154 true 2 2:=CkT.struct sz_154 (by kernel_rfl) (fl:=[(false,3,0),(false,3,1)]) (by kernel_rfl) ⟨rfl,rfl,false,1,CkT.int u_3 sz_3,rfl,rfl,false,1,CkT.int u_3 sz_3,rfl⟩
theorem mt_83:MapT Tryz.prog 83 154 45 2 false [.slice none 0 0]:=MapT.mk' u_83 (by kernel_rfl) eqT_154 (by decide) ckT_154 (by decide) (by kernel_rfl)
theorem eqT_99:EqT Tryz.prog 99 true 2 2:=EqT.struct sz_99 (by kernel_rfl) (by kernel_rfl) (fl:=[(false,3,0),(false,3,1)]) (by kernel_rfl) ⟨rfl,rfl,false,1,EqT.int u_3 sz_3,rfl,rfl,false,1,EqT.int u_3 sz_3,rfl⟩
theorem ckT_99:CkT Tryz.prog 99 true 2 2:=CkT.struct sz_99 (by kernel_rfl) (fl:=[(false,3,0),(false,3,1)]) (by kernel_rfl) ⟨rfl,rfl,false,1,CkT.int u_3 sz_3,rfl,rfl,false,1,CkT.int u_3 sz_3,rfl⟩
theorem mt_94:MapT Tryz.prog 94 99 3 2 false [iv 0]:=MapT.mk' u_94 (by kernel_rfl) eqT_99 (by decide) ckT_99 (by decide) (by kernel_rfl)
theorem eqT_27:EqT Tryz.prog 27 true 2 2:=EqT.struct sz_27 (by kernel_rfl) (by kernel_rfl) (fl:=[(false,3,0),(false,3,1)]) (by kernel_rfl) ⟨rfl,rfl,false,1,EqT.int u_3 sz_3,rfl,rfl,false,1,EqT.int u_3 sz_3,rfl⟩
theorem mt_140:MapTI Tryz.prog 140 3 30 false [.slice none 0 0]:=MapTI.mk' u_140 u_3 (by kernel_rfl)
def FnOk_123 (w0:World) (D0:Stab) (fid:FuncId) (first cap:List Value) (f:(Span→Option Int)):Prop:=callable Tryz.prog fid=true∧∀ (w:World) (D:Stab),Below w0.heap.size w0 w→D0.le D→D.on w→∀ (z:Span) (r:Int),f z=some r→Calls Tryz.prog fid (first ++ ([.agg #[iv z.Low,iv z.High]]:List Value) ++ cap).toArray w (RetP D w (iv r:Value))
def FnOk_91 (w0:World) (D0:Stab) (fid:FuncId) (first cap:List Value) (f:((List Int)→Option Bool)):Prop:=callable Tryz.prog fid=true∧∀ (w:World) (D:Stab),Below w0.heap.size w0 w→D0.le D→D.on w→∀ (z:(List Int)) (p:Option Addr) (c:Nat) (hs:SRc C_int D z p c) (r:Bool),f z=some r→Calls Tryz.prog fid (first ++ ([.slice p z.length c]:List Value) ++ cap).toArray w (RetP D w (.bool r:Value))
def FnOk_93 (w0:World) (D0:Stab) (fid:FuncId) (first cap:List Value) (f:(Int→Option Bool)):Prop:=callable Tryz.prog fid=true∧∀ (w:World) (D:Stab),Below w0.heap.size w0 w→D0.le D→D.on w→∀ (z:Int) (r:Bool),f z=some r→Calls Tryz.prog fid (first ++ ([iv z]:List Value) ++ cap).toArray w (RetP D w (.bool r:Value))
def FnOk_82 (w0:World) (D0:Stab) (fid:FuncId) (first cap:List Value) (f:((List Int)→(List Int)→Option Bool)):Prop:=callable Tryz.prog fid=true∧∀ (w:World) (D:Stab),Below w0.heap.size w0 w→D0.le D→D.on w→∀ (z:(List Int)) (z_1:(List Int)) (p:Option Addr) (c:Nat) (p_1:Option Addr) (c_1:Nat) (hs:SRc C_int D z p c) (hs_1:SRc C_int D z_1 p_1 c_1) (r:Bool),f z z_1=some r→Calls Tryz.prog fid (first ++ ([.slice p z.length c,.slice p_1 z_1.length c_1]:List Value) ++ cap).toArray w (RetP D w (.bool r:Value))
end Go.Proofs.YtgdfljiliflhfaaGreatDoor.Rt
