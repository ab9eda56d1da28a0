/- What the reference's parser makes of one text of chapter 11's example. (Parts of one proof, put together.) -/
import Derived.Test.YtlfnfilcbhfdnaaGreatDoorB4
set_option linter.unusedSimpArgs false
set_option linter.unusedVariables false
set_option linter.deprecated false

/- What the reference's parser makes of one text of chapter 11's example. -/
namespace Go.Vs.Tryz
open Go Go.Vs

def txt5 : List UInt8 := [92, 97, 46, 32, 92, 98, 46, 32, 98]
def val5 : V := (.ag [(.c (.int .i64 4)), (.c (.int .i64 0)), (.c (.str [97])), (.c (.int .i64 0)), (.c (.sl [[(.int .i64 4), (.int .i64 4), (.str [98]), (.int .i64 0), (.sl [[(.int .i64 1), (.int .i64 8), (.str [98]), (.int .i64 0), (.sl []), (.sl []), (.int .i64 0), (.str []), (.int .i64 0), (.int .i64 0), (.sl [])]]), (.sl []), (.int .i64 0), (.str []), (.int .i64 0), (.int .i64 0), (.sl [])]])), .nil, (.c (.int .i64 0)), (.c (.str [])), (.c (.int .i64 0)), (.c (.int .i64 0)), .nil])
set_option maxRecDepth 100000 in
theorem read5 : ev 60 48 [.sc (.c (.str txt5))] [] = some (val5, []) := by kernel_rfl
end Go.Vs.Tryz

/- What the reference's parser makes of one text of chapter 11's example. -/
namespace Go.Vs.Tryz
open Go Go.Vs

def txt6 : List UInt8 := [92, 118, 49, 46, 32, 121, 32, 118, 49]
def val6 : V := (.ag [(.c (.int .i64 4)), (.c (.int .i64 0)), (.c (.str [118, 49])), (.c (.int .i64 0)), (.c (.sl [[(.int .i64 5), (.int .i64 5), (.str []), (.int .i64 0), (.sl [[(.int .i64 1), (.int .i64 5), (.str [121]), (.int .i64 0), (.sl []), (.sl []), (.int .i64 0), (.str []), (.int .i64 0), (.int .i64 0), (.sl [])], [(.int .i64 1), (.int .i64 7), (.str [118, 49]), (.int .i64 0), (.sl []), (.sl []), (.int .i64 0), (.str []), (.int .i64 0), (.int .i64 0), (.sl [])]]), (.sl []), (.int .i64 0), (.str []), (.int .i64 0), (.int .i64 0), (.sl [])]])), .nil, (.c (.int .i64 0)), (.c (.str [])), (.c (.int .i64 0)), (.c (.int .i64 0)), .nil])
set_option maxRecDepth 100000 in
theorem read6 : ev 60 48 [.sc (.c (.str txt6))] [] = some (val6, []) := by kernel_rfl
end Go.Vs.Tryz

/- One call of chapter 11's example. -/
namespace Go.Vs.Tryz
open Go Go.Vs

def arg8 : List V := [(.ag [(.c (.int .i64 4)), (.c (.int .i64 0)), (.c (.str [121])), (.c (.int .i64 0)), (.c (.sl [[(.int .i64 5), (.int .i64 4), (.str []), (.int .i64 0), (.sl [[(.int .i64 1), (.int .i64 4), (.str [120]), (.int .i64 0), (.sl []), (.sl []), (.int .i64 0), (.str []), (.int .i64 0), (.int .i64 0), (.sl [])], [(.int .i64 1), (.int .i64 6), (.str [121]), (.int .i64 0), (.sl []), (.sl []), (.int .i64 0), (.str []), (.int .i64 0), (.int .i64 0), (.sl [])]]), (.sl []), (.int .i64 0), (.str []), (.int .i64 0), (.int .i64 0), (.sl [])]])), (.c (.sl [])), (.c (.int .i64 0)), (.c (.str [])), (.c (.int .i64 0)), (.c (.int .i64 0)), (.c (.sl []))]), (.sc (.c (.str [120]))), (.ag [(.c (.int .i64 1)), (.c (.int .i64 0)), (.c (.str [121])), (.c (.int .i64 0)), (.c (.sl [])), (.c (.sl [])), (.c (.int .i64 0)), (.c (.str [])), (.c (.int .i64 0)), (.c (.int .i64 0)), (.c (.sl []))])]
def val8 : V := (.ag [(.c (.int .i64 4)), (.c (.int .i64 0)), (.c (.str [118, 49])), (.c (.int .i64 0)), (.c (.sl [[(.int .i64 5), (.int .i64 4), (.str []), (.int .i64 0), (.sl [[(.int .i64 1), (.int .i64 0), (.str [121]), (.int .i64 0), (.sl []), (.sl []), (.int .i64 0), (.str []), (.int .i64 0), (.int .i64 0), (.sl [])], [(.int .i64 1), (.int .i64 6), (.str [118, 49]), (.int .i64 0), (.sl []), (.sl []), (.int .i64 0), (.str []), (.int .i64 0), (.int .i64 0), (.sl [])]]), (.sl []), (.int .i64 0), (.str []), (.int .i64 0), (.int .i64 0), (.sl [])]])), (.c (.sl [])), (.c (.int .i64 0)), (.c (.str [])), (.c (.int .i64 0)), (.c (.int .i64 0)), (.c (.sl []))])
set_option maxRecDepth 100000 in
theorem call8 : ev 60 47 arg8 [] = some (val8, []) := by kernel_rfl
end Go.Vs.Tryz

/- One call of chapter 11's example. -/
namespace Go.Vs.Tryz
open Go Go.Vs

def arg9 : List V := [(.ag [(.c (.int .i64 4)), (.c (.int .i64 0)), (.c (.str [120])), (.c (.int .i64 0)), (.c (.sl [[(.int .i64 4), (.int .i64 4), (.str [121]), (.int .i64 0), (.sl [[(.int .i64 1), (.int .i64 8), (.str [120]), (.int .i64 0), (.sl []), (.sl []), (.int .i64 0), (.str []), (.int .i64 0), (.int .i64 0), (.sl [])]]), (.sl []), (.int .i64 0), (.str []), (.int .i64 0), (.int .i64 0), (.sl [])]])), (.c (.sl [])), (.c (.int .i64 0)), (.c (.str [])), (.c (.int .i64 0)), (.c (.int .i64 0)), (.c (.sl []))]), (.ag [(.c (.int .i64 4)), (.c (.int .i64 0)), (.c (.str [97])), (.c (.int .i64 0)), (.c (.sl [[(.int .i64 4), (.int .i64 4), (.str [98]), (.int .i64 0), (.sl [[(.int .i64 1), (.int .i64 8), (.str [97]), (.int .i64 0), (.sl []), (.sl []), (.int .i64 0), (.str []), (.int .i64 0), (.int .i64 0), (.sl [])]]), (.sl []), (.int .i64 0), (.str []), (.int .i64 0), (.int .i64 0), (.sl [])]])), (.c (.sl [])), (.c (.int .i64 0)), (.c (.str [])), (.c (.int .i64 0)), (.c (.int .i64 0)), (.c (.sl []))])]
def val9 : V := (.sc (.c (.bool true)))
set_option maxRecDepth 100000 in
theorem call9 : ev 60 22 arg9 [] = some (val9, []) := by kernel_rfl
end Go.Vs.Tryz
