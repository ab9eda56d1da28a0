/- What the reference's parser makes of one text of chapter 11's example. (Parts of one proof, put together.) -/
import Derived.Test.YtlfnfilcbhfdnaaGreatDoorB4
set_option linter.unusedSimpArgs false
set_option linter.unusedVariables false
set_option linter.deprecated false

/- What the reference's parser makes of one text of chapter 11's example. -/
namespace Go.Vs.Tryz
open Go Go.Vs

def txt1 : List UInt8 := [92, 121, 46, 32, 120, 32, 121]
def val1 : V := (.ag [(.c (.int .i64 4)), (.c (.int .i64 0)), (.c (.str [121])), (.c (.int .i64 0)), (.c (.sl [[(.int .i64 5), (.int .i64 4), (.str []), (.int .i64 0), (.sl [[(.int .i64 1), (.int .i64 4), (.str [120]), (.int .i64 0), (.sl []), (.sl []), (.int .i64 0), (.str []), (.int .i64 0), (.int .i64 0), (.sl [])], [(.int .i64 1), (.int .i64 6), (.str [121]), (.int .i64 0), (.sl []), (.sl []), (.int .i64 0), (.str []), (.int .i64 0), (.int .i64 0), (.sl [])]]), (.sl []), (.int .i64 0), (.str []), (.int .i64 0), (.int .i64 0), (.sl [])]])), .nil, (.c (.int .i64 0)), (.c (.str [])), (.c (.int .i64 0)), (.c (.int .i64 0)), .nil])
set_option maxRecDepth 100000 in
theorem read1 : ev 60 48 [.sc (.c (.str txt1))] [] = some (val1, []) := by kernel_rfl
end Go.Vs.Tryz

/- What the reference's parser makes of one text of chapter 11's example. -/
namespace Go.Vs.Tryz
open Go Go.Vs

def txt2 : List UInt8 := [121]
def val2 : V := (.ag [(.c (.int .i64 1)), (.c (.int .i64 0)), (.c (.str [121])), (.c (.int .i64 0)), .nil, .nil, (.c (.int .i64 0)), (.c (.str [])), (.c (.int .i64 0)), (.c (.int .i64 0)), .nil])
set_option maxRecDepth 100000 in
theorem read2 : ev 60 48 [.sc (.c (.str txt2))] [] = some (val2, []) := by kernel_rfl
end Go.Vs.Tryz

/- What the reference's parser makes of one text of chapter 11's example. -/
namespace Go.Vs.Tryz
open Go Go.Vs

def txt3 : List UInt8 := [92, 120, 46, 32, 92, 121, 46, 32, 120]
def val3 : V := (.ag [(.c (.int .i64 4)), (.c (.int .i64 0)), (.c (.str [120])), (.c (.int .i64 0)), (.c (.sl [[(.int .i64 4), (.int .i64 4), (.str [121]), (.int .i64 0), (.sl [[(.int .i64 1), (.int .i64 8), (.str [120]), (.int .i64 0), (.sl []), (.sl []), (.int .i64 0), (.str []), (.int .i64 0), (.int .i64 0), (.sl [])]]), (.sl []), (.int .i64 0), (.str []), (.int .i64 0), (.int .i64 0), (.sl [])]])), .nil, (.c (.int .i64 0)), (.c (.str [])), (.c (.int .i64 0)), (.c (.int .i64 0)), .nil])
set_option maxRecDepth 100000 in
theorem read3 : ev 60 48 [.sc (.c (.str txt3))] [] = some (val3, []) := by kernel_rfl
end Go.Vs.Tryz

/- What the reference's parser makes of one text of chapter 11's example. -/
namespace Go.Vs.Tryz
open Go Go.Vs

def txt4 : List UInt8 := [92, 97, 46, 32, 92, 98, 46, 32, 97]
def val4 : V := (.ag [(.c (.int .i64 4)), (.c (.int .i64 0)), (.c (.str [97])), (.c (.int .i64 0)), (.c (.sl [[(.int .i64 4), (.int .i64 4), (.str [98]), (.int .i64 0), (.sl [[(.int .i64 1), (.int .i64 8), (.str [97]), (.int .i64 0), (.sl []), (.sl []), (.int .i64 0), (.str []), (.int .i64 0), (.int .i64 0), (.sl [])]]), (.sl []), (.int .i64 0), (.str []), (.int .i64 0), (.int .i64 0), (.sl [])]])), .nil, (.c (.int .i64 0)), (.c (.str [])), (.c (.int .i64 0)), (.c (.int .i64 0)), .nil])
set_option maxRecDepth 100000 in
theorem read4 : ev 60 48 [.sc (.c (.str txt4))] [] = some (val4, []) := by kernel_rfl
end Go.Vs.Tryz
